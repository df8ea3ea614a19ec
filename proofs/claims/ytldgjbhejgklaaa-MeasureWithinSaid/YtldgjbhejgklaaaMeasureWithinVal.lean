/- What reads as data at the type of the program's values is a value tree (lists of bounded length): the reading of a parameter of that type. -/
import Derived.Test.YtldgjbhejgklaaaPMeasureWithinx0
import Derived.WalkKit
import Derived.ProofKit
import Derived.OpenShut
import Derived.ShutString
import Derived.ChangeOld
import Derived.SizedLaws
namespace Go.Proofs.Ytldgjbhejgklaaa.PMeasureWithin
open Go.ChangeShapes Go.WideShapes Go.ChangeAt Go.RowKit Go.Proofs.YtldgjbhejgklaaaW.PrintWords Go.Proofs.YtldgjbhejgklaaaW.PrintLast Go.Proofs.YtldgjbhejgklaaaW.PrintMore

/-- A value tree whose lists are no longer than memory allows. -/
inductive Ok25 : S25 → Prop
  | mk (x : S25) (h0 : (Lit.int .i64 x.f0).wf = true) (h1 : (Lit.int .i64 x.f1).wf = true) (h2 : x.f2.size ≤ maxLen) (h3 : x.f3.length ≤ maxLen) (hs : ∀ y ∈ x.f3, Ok25 y)
      (h4 : x.f4.length ≤ maxLen) (h5 : ∀ y ∈ x.f4, (Lit.int .i64 y).wf = true) : Ok25 x

section
variable {H : Type} {enc : TypeId × Value → H} {W : World} {spare : Nat → Bool} {held : Bool}

/-- A row whose elements each read as a kind says is that kind's row. -/
theorem rowOf {α : Type} (d : Kd α) (good : α → Prop) {a : Addr} {len : Nat} (hlen : len ≤ maxLen)
    (h : ∀ i, i < len → ∃ (c : List Value) (v : α), W.cells? 0 (a.add (i * d.sz)) d.sz = some c ∧ d.K W v c ∧ good v) :
    ∃ xs : List α, xs.length = len ∧ d.C W (some a) xs.length xs ∧ ∀ y ∈ xs, good y := by
  refine ⟨List.ofFn (fun i : Fin len => (h i.1 i.2).choose_spec.choose), by simp, ⟨rfl, ?_, fun _ => ⟨a, rfl, fun j p hj => ?_⟩⟩, fun y hy => ?_⟩
  · simp only [List.length_ofFn]
    unfold maxLen at hlen
    omega
  · rw [List.getElem?_ofFn] at hj
    split at hj
    · rename_i hjl
      have e := Option.some.inj hj
      have hc := (h j hjl).choose_spec.choose_spec
      obtain ⟨_, hl, hcell⟩ := World.cells?_some hc.1
      refine ⟨(h j hjl).choose, hl, by rw [← e]; exact hc.2.1, fun i u hu => ?_⟩
      have hi : i < d.sz := by
        rw [← hl]
        exact (List.getElem?_eq_some_iff.1 hu).1
      have h1 := hcell i hi
      rw [hu] at h1
      rw [add_add] at h1
      exact h1
    · simp at hj
  · obtain ⟨i, rfl⟩ := List.mem_ofFn.1 hy
    exact (h i.1 i.2).choose_spec.choose_spec.2.2

/-- A slice of whole numbers, read. -/
theorem reads_nums {k : IntKind} {t e : TypeId} (ht : Try.prog.underlying t = some (.slice e)) (he : Try.prog.underlying e = some (.int k)) (hc : Try.prog.cellsOf e = 1) {fuel : Nat} {cs : List Value} {x : DataW H × List MemPlace}
    (h : DataW.trod enc Try.prog W 0 spare held fuel t cs = some x) :
    ∃ (A : Option Addr) (c : Nat) (xs : List Int), cs = [.slice A xs.length c] ∧ xs.length ≤ c ∧ (Kd.int k).C W A xs.length xs ∧ xs.length ≤ maxLen ∧ ∀ y ∈ xs, (Lit.int k y).wf = true := by
  rcases open_ints ht he hc h with ⟨rfl, _⟩ | ⟨a, len, cap, zs, rfl, _, hl, hm, hz, _, hcell, hw⟩
  · exact ⟨none, 0, [], rfl, Nat.le_refl _, ⟨rfl, Nat.zero_le _, fun h => absurd h (Nat.lt_irrefl 0)⟩, Nat.zero_le _, fun _ h => by simp at h⟩
  · have hz' : len ≤ zs.length := by rw [hz]; split <;> omega
    have hlen : (zs.take len).length = len := by rw [List.length_take]; omega
    refine ⟨some a, cap, zs.take len, by rw [hlen], by rw [hlen]; exact hl, ⟨rfl, ?_, fun _ => ⟨a, rfl, fun j p hj => ⟨[.int k p], rfl, rfl, fun i u hu => ?_⟩⟩⟩, by rw [hlen]; omega, fun y hy => hw y (List.mem_of_mem_take hy)⟩
    · rw [hlen]; unfold maxLen at hm; omega
    · cases i with
      | zero =>
        have hjl : j < len := by have := (List.getElem?_eq_some_iff.1 hj).1; omega
        have hu' : Value.int k p = u := by simpa using hu
        subst hu'
        have h1 := hcell j (by omega)
        have h2 : zs.getD j 0 = p := by
          rw [List.getElem?_take_of_lt hjl] at hj
          rw [List.getD_eq_getElem?_getD, hj]
          rfl
        rw [h2] at h1
        show W.cell? (a.add (j * 1 + 0)) = _
        rw [Nat.mul_one, Nat.add_zero]
        exact h1
      | succ i => simp at hu

theorem reads_value : ∀ (fuel : Nat) (cs : List Value) (x : DataW H × List MemPlace), DataW.trod enc Try.prog W 0 spare held fuel 25 cs = some x → ∃ v : S25, k25.K W v cs ∧ Ok25 v := by
  intro fuel
  induction fuel using Nat.strongRecOn with
  | ind fuel ih =>
  intro cs x h
  obtain ⟨xs, n, rfl, rfl, hl, hxs, hf⟩ := DataW.trod_struct Try.underlying25 h
  have hc5 : Try.prog.cellsOf 25 = 5 := by kernel_rfl
  have c0 : Try.prog.cellsOf 3 = 1 := by kernel_rfl
  have c1 : Try.prog.cellsOf 2 = 1 := by kernel_rfl
  have c2 : Try.prog.cellsOf 9 = 1 := by kernel_rfl
  have c3 : Try.prog.cellsOf 22 = 1 := by kernel_rfl
  have c4 : Try.prog.cellsOf 23 = 1 := by kernel_rfl
  rw [hc5] at hl
  obtain ⟨u0, u1, u2, u3, u4, rfl⟩ : ∃ u0 u1 u2 u3 u4, cs = [u0, u1, u2, u3, u4] := by
    match cs, hl with
    | [u0, u1, u2, u3, u4], _ => exact ⟨u0, u1, u2, u3, u4, rfl⟩
  have g : ∀ i, i < 5 → ∃ y, xs[i]? = some y := fun i hi => ⟨xs[i]'(by rw [hxs]; exact hi), List.getElem?_eq_getElem _⟩
  obtain ⟨y0, e0⟩ := g 0 (by omega)
  obtain ⟨y1, e1⟩ := g 1 (by omega)
  obtain ⟨y2, e2⟩ := g 2 (by omega)
  obtain ⟨y3, e3⟩ := g 3 (by omega)
  obtain ⟨y4, e4⟩ := g 4 (by omega)
  have f0 := hf 0 _ rfl
  have f1 := hf 1 _ rfl
  have f2 := hf 2 _ rfl
  have f3 := hf 3 _ rfl
  have f4 := hf 4 _ rfl
  rw [e0] at f0
  rw [e1] at f1
  rw [e2] at f2
  rw [e3] at f3
  rw [e4] at f4
  change DataW.trod enc Try.prog W 0 spare held n 3 [u0] = _ at f0
  change DataW.trod enc Try.prog W 0 spare held n 2 [u1] = _ at f1
  change DataW.trod enc Try.prog W 0 spare held n 9 [u2] = _ at f2
  change DataW.trod enc Try.prog W 0 spare held n 22 [u3] = _ at f3
  change DataW.trod enc Try.prog W 0 spare held n 23 [u4] = _ at f4
  obtain ⟨n0, z0, _, w0⟩ := DataW.trod_int Try.underlying3 f0
  obtain ⟨n1, z1, _, w1⟩ := DataW.trod_int Try.underlying2 f1
  obtain ⟨s2, z2, _, w2⟩ := DataW.trod_string Try.underlying9 f2
  obtain ⟨A4, cp4, l4, z4, hc4, g4, m4, w4⟩ := reads_nums (k := .i64) Try.underlying23 Try.underlying3 c0 f4
  have h3 : ∃ (A3 : Option Addr) (cp3 : Nat) (l3 : List S25), u3 = .slice A3 l3.length cp3 ∧ l3.length ≤ cp3 ∧ k25.C W A3 l3.length l3 ∧ l3.length ≤ maxLen ∧ ∀ y ∈ l3, Ok25 y := by
    rcases DataW.trod_slice Try.underlying22 f3 with ⟨hcs, _⟩ | ⟨a, len, cap, elems, rest, m, rfl, hcs, _, _, hlc, hcm, hel, hat, _, _⟩
    · injection hcs with hcs _
      subst hcs
      exact ⟨none, 0, [], rfl, Nat.le_refl _, ⟨rfl, Nat.zero_le _, fun h => absurd h (Nat.lt_irrefl 0)⟩, Nat.zero_le _, fun _ h => by simp at h⟩
    · injection hcs with hcs _
      subst hcs
      rw [hc5] at hat
      obtain ⟨l3, hl3, hC, hok⟩ := rowOf k25 Ok25 (W := W) (a := a) (len := len) (by omega) (fun i hi => by
        have h1 := hat i hi
        rw [List.getElem?_eq_getElem (by omega)] at h1
        obtain ⟨c, hcc, hct⟩ := Option.bind_eq_some_iff.1 h1
        obtain ⟨v, hv, ho⟩ := ih m (by omega) c _ hct
        exact ⟨c, v, hcc, hv, ho⟩)
      subst hl3
      exact ⟨some a, cap, l3, rfl, hlc, hC, by omega, hok⟩
  obtain ⟨A3, cp3, l3, z3, hc3, g3, m3, w3⟩ := h3
  injection z0 with z0 _
  injection z1 with z1 _
  injection z2 with z2 _
  injection z4 with z4 _
  subst z0 z1 z2 z3 z4
  exact ⟨⟨n0, n1, s2, l3, l4⟩, k25_mk W ⟨n0, n1, s2, l3, l4⟩ hc3 g3 hc4 g4, ⟨_, w0, w1, w2, m3, w3, m4, w4⟩⟩
end
end Go.Proofs.Ytldgjbhejgklaaa.PMeasureWithin
