/- Four numbers as an argument. Mine. -/
import Derived.WideKeyArr
import Derived.ChangeSame
set_option linter.unusedVariables false
namespace Go.Proofs.YtjofhegodknmaaaGreat.Say
open Go Go.ChangeShapes Go.WideShapes
section
variable {H : Type} {enc : TypeId × Value → H} {P : Program} {k e : TypeId} {q : IntKind} {W : World} {base : Nat} {sp : Nat → Bool} {held : Bool}
theorem open4 (hu : P.underlying k = some (.array 4 e)) (hs : P.cellsOf k = 4) (h1 : P.cellsOf e = 1) (he : P.underlying e = some (.int q)) {r : Reach} {b0 : Nat} {v : Value} {d : DataW H} {ps : List MemPlace} (hval : Value.okWide P W r b0 k v) (hd : DataW.Trod enc P W base sp held k v d ps) :
    ∃ x y z w : Int, v = .agg #[.int q x, .int q y, .int q z, .int q w] ∧ d = .agg [.lit (.int q x), .lit (.int q y), .lit (.int q z), .lit (.int q w)] ∧ ps = [] ∧ (Lit.int q x).wf = true ∧ (Lit.int q y).wf = true ∧ (Lit.int q z).wf = true ∧ (Lit.int q w).wf = true := by
  obtain ⟨c0, c1, c2, c3, rfl⟩ : ∃ c0 c1 c2 c3, v = .agg #[c0, c1, c2, c3] := by
    simp only [Value.okWide, hu] at hval
    obtain ⟨cs, g1, g2, _⟩ := hval
    rw [hs] at g2
    obtain ⟨l⟩ := cs
    match l, g2 with
    | [c0, c1, c2, c3], _ => exact ⟨c0, c1, c2, c3, g1⟩
  obtain ⟨fuel, hf⟩ := hd
  cases fuel with
  | zero => simp [DataW.trod] at hf
  | succ n =>
    rw [DataW.trod_step] at hf
    unfold DataW.trodStep at hf
    simp only [hu, Value.cells] at hf
    rw [if_pos (by rw [hs]; rfl)] at hf
    simp only [Option.map_eq_some_iff] at hf
    obtain ⟨xs, hx, e1⟩ := hf
    rw [show List.range 4 = [0, 1, 2, 3] from rfl, List.mapM_cons, List.mapM_cons, List.mapM_cons, List.mapM_cons, List.mapM_nil] at hx
    simp only [bind, Option.bind_eq_some_iff, pure, Option.some.injEq, h1] at hx
    obtain ⟨y0, g0, _, ⟨y1, g1, _, ⟨y2, g2, _, ⟨y3, g3, _, rfl, rfl⟩, rfl⟩, rfl⟩, rfl⟩ := hx
    obtain ⟨a, ea, rfl, wa⟩ := DataW.trod_int he g0
    obtain ⟨b, eb, rfl, wb⟩ := DataW.trod_int he g1
    obtain ⟨c, ec, rfl, wc⟩ := DataW.trod_int he g2
    obtain ⟨d, ed, rfl, wd⟩ := DataW.trod_int he g3
    simp at ea eb ec ed
    subst ea; subst eb; subst ec; subst ed
    simp only [Prod.mk.injEq] at e1
    exact ⟨a, b, c, d, rfl, by rw [← e1.1]; rfl, by rw [← e1.2]; rfl, wa, wb, wc, wd⟩
theorem shut4 (hu : P.underlying k = some (.array 4 e)) (hs : P.cellsOf k = 4) (h1 : P.cellsOf e = 1) (he : P.underlying e = some (.int q)) {x y z w : Int} (wx : (Lit.int q x).wf = true) (wy : (Lit.int q y).wf = true) (wz : (Lit.int q z).wf = true) (ww : (Lit.int q w).wf = true) :
    DataW.Trod enc P W base sp held k (.agg #[.int q x, .int q y, .int q z, .int q w]) (.agg [.lit (.int q x), .lit (.int q y), .lit (.int q z), .lit (.int q w)]) [] :=
  ⟨2, by
    show DataW.trod enc P W base sp held (1 + 1) k [.int q x, .int q y, .int q z, .int q w] = _
    rw [DataW.trod_step]
    unfold DataW.trodStep
    simp only [hu]
    rw [if_pos (by rw [hs]; rfl), show List.range 4 = [0, 1, 2, 3] from rfl, List.mapM_cons, List.mapM_cons, List.mapM_cons, List.mapM_cons, List.mapM_nil]
    simp [h1, DataW.trod, he, wx, wy, wz, ww]⟩
end
end Go.Proofs.YtjofhegodknmaaaGreat.Say
