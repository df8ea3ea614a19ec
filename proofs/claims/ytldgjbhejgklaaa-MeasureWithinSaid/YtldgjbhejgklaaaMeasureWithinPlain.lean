/- MeasureWithin: on every value tree the depth is one more than the greatest depth within, and the count one more than all counts within. -/
import Derived.Test.YtldgjbhejgklaaaMeasureWithinVal
import Derived.Test.YtldgjbhejgklaaaPMeasureWithinx
namespace Go.Proofs.Ytldgjbhejgklaaa.Plain
open Go.RowKit Go.Proofs.YtldgjbhejgklaaaW.PrintWords Go.Proofs.YtldgjbhejgklaaaW.PrintLast Go.Proofs.YtldgjbhejgklaaaW.PrintMore
open Go.Proofs.Ytldgjbhejgklaaa.PMeasureWithin

theorem wrap_ix {j n : Nat} (h : j < n) (hn : n ≤ maxLen) : wrap64 ((j : Int) + 1) = ((j + 1 : Nat) : Int) := by
  unfold wrap64
  unfold maxLen at hn
  omega
theorem rd_nat (xs : List S25) (j : Nat) (h : j < xs.length) : rd_T25 xs (j : Int) = xs[j] := by
  unfold rd_T25
  simp [List.getD_eq_getElem?_getD, List.getElem?_eq_getElem h]

/-- A round-bounded function's answer, once there is one. -/
def Tells {α : Type} (g : Nat → Option α) (n : α) : Prop := ∃ K, ∀ k, K ≤ k → g k = some n
theorem Tells.one {α : Type} {g : Nat → Option α} {n m : α} (h : Tells g n) (h' : Tells g m) : n = m := by
  obtain ⟨K, h⟩ := h
  obtain ⟨K', h'⟩ := h'
  have a := h (K + K') (by omega)
  have b := h' (K + K') (by omega)
  rw [a] at b
  exact Option.some.inj b
/-- With one round more. -/
theorem Tells.succ {α : Type} {g : Nat → Option α} {n : α} (h : Tells (fun k => g (k + 1)) n) : Tells g n := by
  obtain ⟨K, h⟩ := h
  refine ⟨K + 1, fun k hk => ?_⟩
  obtain ⟨k, rfl⟩ : ∃ m, k = m + 1 := ⟨k - 1, by omega⟩
  exact h k (by omega)
theorem Tells.pure {α : Type} (n : α) : Tells (fun _ => some n) n := ⟨0, fun _ _ => rfl⟩
theorem Tells.bind {α β : Type} {g : Nat → Option α} {f : Nat → α → Option β} {n : α} {m : β} (h : Tells g n) (h' : Tells (fun k => f k n) m) : Tells (fun k => (g k).bind (f k)) m := by
  obtain ⟨K, h⟩ := h
  obtain ⟨K', h'⟩ := h'
  refine ⟨K + K', fun k hk => ?_⟩
  show (g k).bind (f k) = _
  rw [h k (by omega)]
  exact h' k (by omega)
theorem Tells.cong {α : Type} {g g' : Nat → Option α} {n : α} (h : Tells g' n) (e : ∀ k, g k = g' k) : Tells g n := by
  obtain ⟨K, h⟩ := h
  exact ⟨K, fun k hk => (e k).trans (h k hk)⟩

abbrev fD (x : S25) (k : Nat) := measure_Depth.f k x.f0 x.f1 x.f2 x.f3 x.f4
abbrev fC (x : S25) (k : Nat) := measure_Count.f k x.f0 x.f1 x.f2 x.f3 x.f4
def isIn (x : S25) : Prop := x.f0 = 15 ∨ x.f0 = 14 ∨ x.f0 = 13 ∨ x.f0 = 12
theorem holds_in (x : S25) (h : isIn x) : measure_holds.f x.f0 x.f1 x.f2 x.f3 x.f4 = some true := by
  unfold measure_holds.f
  repeat' split
  all_goals first | rfl | (unfold isIn at h; omega)
theorem holds_out (x : S25) (h : ¬ isIn x) : measure_holds.f x.f0 x.f1 x.f2 x.f3 x.f4 = some false := by
  unfold measure_holds.f
  repeat' split
  all_goals first | rfl | (unfold isIn at h; omega)

open Classical in
noncomputable def dp (x : S25) : Int := if h : ∃ n, Tells (fD x) n then h.choose else 0
open Classical in
noncomputable def ct (x : S25) : Int := if h : ∃ n, Tells (fC x) n then h.choose else 0
theorem dp_at {x : S25} (h : ∃ n, Tells (fD x) n) : Tells (fD x) (dp x) := by unfold dp; rw [dif_pos h]; exact h.choose_spec
theorem ct_at {x : S25} (h : ∃ n, Tells (fC x) n) : Tells (fC x) (ct x) := by unfold ct; rw [dif_pos h]; exact h.choose_spec

theorem depth_loop (xs : List S25) (hn : xs.length ≤ maxLen) (hx : ∀ y ∈ xs, Tells (fD y) (dp y)) : ∀ d j (acc : Int), j + d = xs.length →
    Tells (fun k => measure_Depth.l0 k acc xs (xs.length : Int) (j : Int)) (wrap64 ((xs.drop j).foldl (fun a y => mx a (dp y)) acc + 1)) := by
  intro d
  induction d with
  | zero =>
    intro j acc hj
    rw [List.drop_of_length_le (by omega)]
    refine Tells.succ ((Tells.pure _).cong fun k => ?_)
    simp only [measure_Depth.l0]
    rw [if_neg (by omega)]
    rfl
  | succ d ih =>
    intro j acc hj
    have hjl : j < xs.length := by omega
    rw [List.drop_eq_getElem_cons hjl, List.foldl_cons]
    refine Tells.succ (((hx _ (List.getElem_mem hjl)).bind (f := fun k t => measure_Depth.l0 k (mx acc t) xs (xs.length : Int) ((j + 1 : Nat) : Int)) (ih (j + 1) _ (by omega))).cong fun k => ?_)
    simp only [measure_Depth.l0]
    rw [if_pos (by omega), if_pos (by omega), if_pos (by omega), rd_nat _ _ hjl, wrap_ix hjl hn]
theorem count_loop (xs : List S25) (hn : xs.length ≤ maxLen) (hx : ∀ y ∈ xs, Tells (fC y) (ct y)) : ∀ d j (acc : Int), j + d = xs.length →
    Tells (fun k => measure_Count.l0 k acc xs (xs.length : Int) (j : Int)) ((xs.drop j).foldl (fun a y => wrap64 (a + ct y)) acc) := by
  intro d
  induction d with
  | zero =>
    intro j acc hj
    rw [List.drop_of_length_le (by omega)]
    refine Tells.succ ((Tells.pure _).cong fun k => ?_)
    simp only [measure_Count.l0]
    rw [if_neg (by omega)]
    rfl
  | succ d ih =>
    intro j acc hj
    have hjl : j < xs.length := by omega
    rw [List.drop_eq_getElem_cons hjl, List.foldl_cons]
    refine Tells.succ (((hx _ (List.getElem_mem hjl)).bind (f := fun k t => measure_Count.l0 k (wrap64 (acc + t)) xs (xs.length : Int) ((j + 1 : Nat) : Int)) (ih (j + 1) _ (by omega))).cong fun k => ?_)
    simp only [measure_Count.l0]
    rw [if_pos (by omega), if_pos (by omega), if_pos (by omega), rd_nat _ _ hjl, wrap_ix hjl hn]

noncomputable def dIn (x : S25) : Int := wrap64 (x.f3.foldl (fun a y => mx a (dp y)) 0 + 1)
noncomputable def cIn (x : S25) : Int := x.f3.foldl (fun a y => wrap64 (a + ct y)) 1
theorem fD_in (x : S25) (hi : isIn x) (hn : x.f3.length ≤ maxLen) (hx : ∀ y ∈ x.f3, Tells (fD y) (dp y)) : Tells (fD x) (dIn x) :=
  Tells.succ ((depth_loop x.f3 hn hx x.f3.length 0 0 (by omega)).cong fun k => by
    show measure_Depth.f (k + 1) _ _ _ _ _ = _
    simp only [measure_Depth.f]
    rw [holds_in x hi]
    rfl)
theorem fD_out (x : S25) (hi : ¬ isIn x) : Tells (fD x) 0 :=
  Tells.succ ((Tells.pure _).cong fun k => by
    show measure_Depth.f (k + 1) _ _ _ _ _ = _
    simp only [measure_Depth.f]
    rw [holds_out x hi]
    rfl)
theorem fC_in (x : S25) (hi : isIn x) (hn : x.f3.length ≤ maxLen) (hx : ∀ y ∈ x.f3, Tells (fC y) (ct y)) : Tells (fC x) (cIn x) :=
  Tells.succ ((count_loop x.f3 hn hx x.f3.length 0 1 (by omega)).cong fun k => by
    show measure_Count.f (k + 1) _ _ _ _ _ = _
    simp only [measure_Count.f]
    rw [holds_in x hi]
    rfl)
theorem fC_out (x : S25) (hi : ¬ isIn x) : Tells (fC x) 1 :=
  Tells.succ ((Tells.pure _).cong fun k => by
    show measure_Count.f (k + 1) _ _ _ _ _ = _
    simp only [measure_Count.f]
    rw [holds_out x hi]
    rfl)
theorem fD_all (x : S25) (h : Ok25 x) : Tells (fD x) (dp x) := by
  induction h with
  | mk x h0 h1 h2 h3 hs h4 h5 ih =>
    by_cases hi : isIn x
    · exact dp_at ⟨_, fD_in x hi h3 ih⟩
    · exact dp_at ⟨_, fD_out x hi⟩
theorem fC_all (x : S25) (h : Ok25 x) : Tells (fC x) (ct x) := by
  induction h with
  | mk x h0 h1 h2 h3 hs h4 h5 ih =>
    by_cases hi : isIn x
    · exact ct_at ⟨_, fC_in x hi h3 ih⟩
    · exact ct_at ⟨_, fC_out x hi⟩

theorem refcount_some (x : S25) (h : Ok25 x) : ∃ n, Tells (fun k => assayerref13_Count.f k x.f0 x.f1 x.f2 x.f3 x.f4) n := by
  induction h with
  | mk x h0 h1 h2 h3 hs h4 h5 ih =>
    obtain ⟨b, hb⟩ : ∃ b, assayerref13_within.f x.f0 = some b := by
      unfold assayerref13_within.f
      repeat' split
      all_goals exact ⟨_, rfl⟩
    have loop : ∀ d j (acc : Int), j + d = x.f3.length → ∃ n, Tells (fun k => assayerref13_Count.l0 k acc (j : Int) x.f0 x.f1 x.f2 x.f3 x.f4) n := by
      intro d
      induction d with
      | zero =>
        intro j acc hj
        refine ⟨acc, Tells.succ ((Tells.pure _).cong fun k => ?_)⟩
        simp only [assayerref13_Count.l0]; rw [if_neg (by omega)]
      | succ d ihd =>
        intro j acc hj
        have hjl : j < x.f3.length := by omega
        cases b with
        | false =>
          refine ⟨acc, Tells.succ ((Tells.pure _).cong fun k => ?_)⟩
          simp only [assayerref13_Count.l0]
          rw [if_pos (by omega), hb]
          rfl
        | true =>
          obtain ⟨n1, H1⟩ := ih x.f3[j] (List.getElem_mem hjl)
          obtain ⟨n2, H2⟩ := ihd (j + 1) (wrap64 (acc + n1)) (by omega)
          refine ⟨n2, Tells.succ ((H1.bind (f := fun k t => assayerref13_Count.l0 k (wrap64 (acc + t)) ((j + 1 : Nat) : Int) x.f0 x.f1 x.f2 x.f3 x.f4) H2).cong fun k => ?_)⟩
          simp only [assayerref13_Count.l0]
          rw [if_pos (by omega), hb]
          simp only [Option.bind_some, if_true]
          rw [if_pos (by omega), rd_nat _ _ hjl, wrap_ix hjl h3]
    obtain ⟨n, H⟩ := loop x.f3.length 0 1 (by omega)
    exact ⟨n, Tells.succ (H.cong fun k => by simp only [assayerref13_Count.f]; rfl)⟩
theorem count13_some (x : S25) (h : Ok25 x) : ∃ n, Tells (fun k => assayerlaw13_count.f k x.f0 x.f1 x.f2 x.f3 x.f4) n := by
  induction h with
  | mk x h0 h1 h2 h3 hs h4 h5 ih =>
    have loop : ∀ d j (acc : Int), j + d = x.f3.length → ∃ n, Tells (fun k => assayerlaw13_count.l0 k acc (j : Int) x.f0 x.f1 x.f2 x.f3 x.f4) n := by
      intro d
      induction d with
      | zero =>
        intro j acc hj
        refine ⟨acc, Tells.succ ((Tells.pure _).cong fun k => ?_)⟩
        simp only [assayerlaw13_count.l0]; rw [if_neg (by omega)]
      | succ d ihd =>
        intro j acc hj
        have hjl : j < x.f3.length := by omega
        obtain ⟨n1, H1⟩ := ih x.f3[j] (List.getElem_mem hjl)
        obtain ⟨n2, H2⟩ := ihd (j + 1) (wrap64 (acc + n1)) (by omega)
        refine ⟨n2, Tells.succ ((H1.bind (f := fun k t => assayerlaw13_count.l0 k (wrap64 (acc + t)) ((j + 1 : Nat) : Int) x.f0 x.f1 x.f2 x.f3 x.f4) H2).cong fun k => ?_)⟩
        simp only [assayerlaw13_count.l0]
        rw [if_pos (by omega), if_pos (by omega), rd_nat _ _ hjl, wrap_ix hjl h3]
    obtain ⟨n, H⟩ := loop x.f3.length 0 1 (by omega)
    exact ⟨n, Tells.succ (H.cong fun k => by simp only [assayerlaw13_count.f]; rfl)⟩

theorem begun_ok : assayerlaw18_begun.f 10 = some true := by decide +kernel
theorem begun_at : Tells assayerlaw18_begun.f true := by
  refine ⟨10, fun k h => ?_⟩
  obtain ⟨d, rfl⟩ := Nat.exists_eq_add_of_le h
  induction d with
  | zero => exact begun_ok
  | succ d ih => exact assayerlaw18_begun.mono (10 + d) _ (ih (by omega))
theorem light_some (x : S25) (h : Ok25 x) : ∃ b, Tells (fun k => assayerlaw13_Light.f k x.f0 x.f1 x.f2 x.f3 x.f4) b := by
  obtain ⟨n, H⟩ := refcount_some x h
  obtain ⟨m, H'⟩ := count13_some x h
  by_cases hn : n ≤ 60
  · refine ⟨decide (m ≤ 60), (H.bind (f := fun k t => if t ≤ 60 then (assayerlaw13_count.f k x.f0 x.f1 x.f2 x.f3 x.f4).bind fun u => some (decide (u ≤ 60)) else some false) ?_).cong fun k => ?_⟩
    · simp only [if_pos hn]
      exact H'.bind (f := fun _ u => some (decide (u ≤ 60))) (Tells.pure _)
    · unfold assayerlaw13_Light.f
      rfl
  · refine ⟨false, (H.bind (f := fun k t => if t ≤ 60 then (assayerlaw13_count.f k x.f0 x.f1 x.f2 x.f3 x.f4).bind fun u => some (decide (u ≤ 60)) else some false) ?_).cong fun k => ?_⟩
    · simp only [if_neg hn]
      exact Tells.pure _
    · unfold assayerlaw13_Light.f
      rfl

theorem law_loop (x : S25) (hn : x.f3.length ≤ maxLen) (hD : ∀ y ∈ x.f3, Tells (fD y) (dp y)) (hC : ∀ y ∈ x.f3, Tells (fC y) (ct y)) (hx : Tells (fC x) (ct x)) (d0 : Int) : ∀ d j (m n : Int), j + d = x.f3.length →
    Tells (fun k => assayerlaw18_MeasureWithin.l0 k d0 n m (j : Int) x.f0 x.f1 x.f2 x.f3 x.f4) (if d0 = wrap64 ((x.f3.drop j).foldl (fun a y => mx a (dp y)) m + 1) then (ct x == (x.f3.drop j).foldl (fun a y => wrap64 (a + ct y)) n) else false) := by
  intro d
  induction d with
  | zero =>
    intro j m n hj
    rw [List.drop_of_length_le (by omega)]
    refine Tells.succ ?_
    by_cases e : d0 = wrap64 (m + 1)
    · rw [List.foldl_nil, List.foldl_nil, if_pos e]
      refine (hx.bind (f := fun _ t => some (t == n)) (Tells.pure _)).cong fun k => ?_
      simp only [assayerlaw18_MeasureWithin.l0]
      rw [if_neg (by omega), if_pos e]
    · rw [List.foldl_nil, List.foldl_nil, if_neg e]
      refine (Tells.pure _).cong fun k => ?_
      simp only [assayerlaw18_MeasureWithin.l0]
      rw [if_neg (by omega), if_neg e]
  | succ d ih =>
    intro j m n hj
    have hjl : j < x.f3.length := by omega
    rw [List.drop_eq_getElem_cons hjl, List.foldl_cons, List.foldl_cons]
    refine Tells.succ (((hD _ (List.getElem_mem hjl)).bind (f := fun k t => (measure_Count.f k x.f3[j].f0 x.f3[j].f1 x.f3[j].f2 x.f3[j].f3 x.f3[j].f4).bind fun u => assayerlaw18_MeasureWithin.l0 k d0 (wrap64 (n + u)) (mx m t) ((j + 1 : Nat) : Int) x.f0 x.f1 x.f2 x.f3 x.f4)
      ((hC _ (List.getElem_mem hjl)).bind (f := fun k u => assayerlaw18_MeasureWithin.l0 k d0 (wrap64 (n + u)) (mx m (dp x.f3[j])) ((j + 1 : Nat) : Int) x.f0 x.f1 x.f2 x.f3 x.f4) (ih (j + 1) _ _ (by omega)))).cong fun k => ?_)
    simp only [assayerlaw18_MeasureWithin.l0]
    rw [if_pos (by omega), if_pos (by omega), rd_nat _ _ hjl, wrap_ix hjl hn]

theorem j0_true (x : S25) (h : Ok25 x) (b : Bool) (hb : b = true ↔ isIn x) : Tells (fun k => assayerlaw18_MeasureWithin.j0 k b x.f0 x.f1 x.f2 x.f3 x.f4) true := by
  obtain ⟨_, h0, h1, h2, h3, hs, h4, h5⟩ := h
  have hall : Ok25 x := ⟨x, h0, h1, h2, h3, hs, h4, h5⟩
  have hD := fun y hy => fD_all y (hs y hy)
  have hC := fun y hy => fC_all y (hs y hy)
  refine Tells.succ ?_
  cases b with
  | true =>
    have hi := hb.1 rfl
    have e1 : dp x = dIn x := (fD_all x hall).one (fD_in x hi h3 hD)
    have e2 : ct x = cIn x := (fC_all x hall).one (fC_in x hi h3 hC)
    have hl := law_loop x h3 hD hC (fC_all x hall) (dp x) x.f3.length 0 0 1 (by omega)
    rw [List.drop_zero, if_pos (show dp x = wrap64 (x.f3.foldl (fun a y => mx a (dp y)) 0 + 1) from e1), show (ct x == x.f3.foldl (fun a y => wrap64 (a + ct y)) 1) = true from beq_iff_eq.2 e2] at hl
    refine ((fD_all x hall).bind (f := fun k t => assayerlaw18_MeasureWithin.l0 k t 1 0 0 x.f0 x.f1 x.f2 x.f3 x.f4) hl).cong fun k => ?_
    simp only [assayerlaw18_MeasureWithin.j0, if_true]
  | false =>
    have hi : ¬ isIn x := fun h => by have := hb.2 h; simp at this
    refine ((fD_out x hi).bind (f := fun k t => if t = 0 then (measure_Count.f k x.f0 x.f1 x.f2 x.f3 x.f4).bind fun u => some (u == 1) else some false) ?_).cong fun k => ?_
    · simp only [if_true]
      exact (fC_out x hi).bind (f := fun _ u => some (u == 1)) (Tells.pure _)
    · simp only [assayerlaw18_MeasureWithin.j0]
      simp only [Bool.false_eq_true, if_false]

theorem MeasureWithin (x : S25) (hO : Ok25 x) : ∃ k, assayerlaw18_MeasureWithin.f k x.f0 x.f1 x.f2 x.f3 x.f4 = some true := by
  obtain ⟨b, hl⟩ := light_some x hO
  suffices h : Tells (fun k => assayerlaw18_MeasureWithin.f k x.f0 x.f1 x.f2 x.f3 x.f4) true by
    obtain ⟨K, h⟩ := h
    exact ⟨K, h K (Nat.le_refl K)⟩
  refine (begun_at.bind (f := fun k (t : Bool) => if t = true then ((assayerlaw13_Light.f k x.f0 x.f1 x.f2 x.f3 x.f4).bind fun u => if u = true then (if x.f0 = 15 then (assayerlaw18_MeasureWithin.j0 k true x.f0 x.f1 x.f2 x.f3 x.f4) else (if x.f0 = 14 then (assayerlaw18_MeasureWithin.j0 k true x.f0 x.f1 x.f2 x.f3 x.f4) else (if x.f0 = 13 then (assayerlaw18_MeasureWithin.j0 k true x.f0 x.f1 x.f2 x.f3 x.f4) else (assayerlaw18_MeasureWithin.j0 k (x.f0 == 12) x.f0 x.f1 x.f2 x.f3 x.f4)))) else some true) else some false) ?_).cong fun k => ?_
  · simp only [if_true]
    refine hl.bind (f := fun k (u : Bool) => if u = true then (if x.f0 = 15 then (assayerlaw18_MeasureWithin.j0 k true x.f0 x.f1 x.f2 x.f3 x.f4) else (if x.f0 = 14 then (assayerlaw18_MeasureWithin.j0 k true x.f0 x.f1 x.f2 x.f3 x.f4) else (if x.f0 = 13 then (assayerlaw18_MeasureWithin.j0 k true x.f0 x.f1 x.f2 x.f3 x.f4) else (assayerlaw18_MeasureWithin.j0 k (x.f0 == 12) x.f0 x.f1 x.f2 x.f3 x.f4)))) else some true) ?_
    cases b with
    | false => simp only [Bool.false_eq_true, if_false]; exact Tells.pure _
    | true =>
      simp only [if_true]
      by_cases e1 : x.f0 = 15
      · simp only [if_pos e1]
        exact j0_true x hO true (by unfold isIn; simp [e1])
      · simp only [if_neg e1]
        by_cases e2 : x.f0 = 14
        · simp only [if_pos e2]
          exact j0_true x hO true (by unfold isIn; simp [e2])
        · simp only [if_neg e2]
          by_cases e3 : x.f0 = 13
          · simp only [if_pos e3]
            exact j0_true x hO true (by unfold isIn; simp [e3])
          · simp only [if_neg e3]
            exact j0_true x hO _ (by unfold isIn; simp [e1, e2, e3])
  · unfold assayerlaw18_MeasureWithin.f
    rfl
end Go.Proofs.Ytldgjbhejgklaaa.Plain
