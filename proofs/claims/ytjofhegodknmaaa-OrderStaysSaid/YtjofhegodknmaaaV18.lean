/- V, 18: from the evaluator to a law's row. -/
import Derived.Test.YtjofhegodknmaaaV17
import Derived.Below
set_option linter.unusedSimpArgs false
set_option linter.unusedVariables false
namespace Go.Proofs.Ytjofhegodknmaaa.V
open Go Go.RowKit
def yes : Option (U × Store × Nat) → Bool
  | some (.dat (.bool b), _, _) => b
  | _ => false
theorem beqI_eq : ∀ {a b : Int}, beqI a b = true → a = b
  | .ofNat a, .ofNat b, h => by rw [Nat.eq_of_beq_eq_true h]
  | .negSucc a, .negSucc b, h => by rw [Nat.eq_of_beq_eq_true h]
  | .ofNat a, .negSucc b, h => by simp [beqI] at h
  | .negSucc a, .ofNat b, h => by simp [beqI] at h
theorem beqB_eq : ∀ {a b : List UInt8}, beqB a b = true → a = b
  | [], [], _ => rfl
  | [], _ :: _, h => by simp [beqB] at h
  | _ :: _, [], h => by simp [beqB] at h
  | a :: r, b :: q, h => by
    simp only [beqB, Bool.and_eq_true] at h
    rw [UInt8.toNat_inj.1 (Nat.eq_of_beq_eq_true h.1), beqB_eq h.2]
theorem beqK_eq {a b : IntKind} (h : beqK a b = true) : a = b := by cases a <;> cases b <;> first | rfl | simp [beqK] at h
theorem beqO_eq {a b : Bool} (h : beqO a b = true) : a = b := by cases a <;> cases b <;> first | rfl | simp [beqO] at h
mutual
theorem beqD_eq : ∀ (a b : D), beqD a b = true → a = b
  | .int k a, .int j b, h => by simp only [beqD, Bool.and_eq_true] at h; rw [beqK_eq h.1, beqI_eq h.2]
  | .bool a, .bool b, h => by simp only [beqD] at h; rw [beqO_eq h]
  | .str a, .str b, h => by
    simp only [beqD] at h
    have h1 := beqB_eq h
    obtain ⟨⟨a⟩⟩ := a
    obtain ⟨⟨b⟩⟩ := b
    simp at h1
    rw [h1]
  | .nil, .nil, _ => rfl
  | .lst a, .lst b, h => by simp only [beqD] at h; rw [beqDs_eq a b h]
  | .agg a, .agg b, h => by simp only [beqD] at h; rw [beqDs_eq a b h]
  | .fp a, .fp b, h => by simp only [beqD] at h; rw [beqDs_eq a b h]
  | .fn f a, .fn g b, h => by simp only [beqD, Bool.and_eq_true] at h; rw [Nat.eq_of_beq_eq_true h.1, beqDs_eq a b h.2]
  | .nul a, .nul b, h => by simp only [beqD] at h; rw [Nat.eq_of_beq_eq_true h]
  | .sym a, .sym b, h => by simp only [beqD] at h; rw [Nat.eq_of_beq_eq_true h]
  | .int .., .bool _, h | .int .., .str _, h | .int .., .nil, h | .int .., .lst _, h | .int .., .agg _, h | .int .., .fp _, h | .int .., .fn .., h | .int .., .nul _, h => by simp [beqD] at h
  | .bool _, .int .., h | .bool _, .str _, h | .bool _, .nil, h | .bool _, .lst _, h | .bool _, .agg _, h | .bool _, .fp _, h | .bool _, .fn .., h | .bool _, .nul _, h => by simp [beqD] at h
  | .str _, .int .., h | .str _, .bool _, h | .str _, .nil, h | .str _, .lst _, h | .str _, .agg _, h | .str _, .fp _, h | .str _, .fn .., h | .str _, .nul _, h => by simp [beqD] at h
  | .nil, .int .., h | .nil, .bool _, h | .nil, .str _, h | .nil, .lst _, h | .nil, .agg _, h | .nil, .fp _, h | .nil, .fn .., h | .nil, .nul _, h => by simp [beqD] at h
  | .lst _, .int .., h | .lst _, .bool _, h | .lst _, .str _, h | .lst _, .nil, h | .lst _, .agg _, h | .lst _, .fp _, h | .lst _, .fn .., h | .lst _, .nul _, h => by simp [beqD] at h
  | .agg _, .int .., h | .agg _, .bool _, h | .agg _, .str _, h | .agg _, .nil, h | .agg _, .lst _, h | .agg _, .fp _, h | .agg _, .fn .., h | .agg _, .nul _, h => by simp [beqD] at h
  | .fp _, .int .., h | .fp _, .bool _, h | .fp _, .str _, h | .fp _, .nil, h | .fp _, .lst _, h | .fp _, .agg _, h | .fp _, .fn .., h | .fp _, .nul _, h => by simp [beqD] at h
  | .fn .., .int .., h | .fn .., .bool _, h | .fn .., .str _, h | .fn .., .nil, h | .fn .., .lst _, h | .fn .., .agg _, h | .fn .., .fp _, h | .fn .., .nul _, h => by simp [beqD] at h
  | .nul _, .int .., h | .nul _, .bool _, h | .nul _, .str _, h | .nul _, .nil, h | .nul _, .lst _, h | .nul _, .agg _, h | .nul _, .fp _, h | .nul _, .fn .., h => by simp [beqD] at h
  | .int .., .sym _, h | .bool _, .sym _, h | .str _, .sym _, h | .nil, .sym _, h | .lst _, .sym _, h | .agg _, .sym _, h | .fp _, .sym _, h | .fn .., .sym _, h | .nul _, .sym _, h => by simp [beqD] at h
  | .sym _, .int .., h | .sym _, .bool _, h | .sym _, .str _, h | .sym _, .nil, h | .sym _, .lst _, h | .sym _, .agg _, h | .sym _, .fp _, h | .sym _, .fn .., h | .sym _, .nul _, h => by simp [beqD] at h
theorem beqDs_eq : ∀ (a b : List D), beqDs a b = true → a = b
  | [], [], _ => rfl
  | [], _ :: _, h => by simp [beqDs] at h
  | _ :: _, [], h => by simp [beqDs] at h
  | a :: r, b :: q, h => by simp only [beqDs, Bool.and_eq_true] at h; rw [beqD_eq a b h.1, beqDs_eq r q h.2]
end
variable [Sig]
theorem Evo.below {w w' : World} {F F' : Mem} {L' : Lay} (h : Evo w F none0 w' F' L') : Below w.heap.size w w' :=
  have _s : Sig := inferInstance; ⟨h.os, h.tape, h.output, h.size, fun k hk => h.frame k hk (fun o i hi => by simp [none0] at hi)⟩
def memOf (W : World) : Mem := fun a => W.cell? a
def RowOk (P : Program) (f : Nat) (row : List (List D × List D)) : Prop := ∀ e ∈ row, Holds P f e.1 e.2
def TblOk (P : Program) (t : Tbl) : Prop := ∀ e ∈ t, RowOk P e.1 e.2
theorem RowOk.nil {P : Program} {f : Nat} : RowOk P f [] := fun _ h => by simp at h
theorem RowOk.cons {P : Program} {f : Nat} {ds rs : List D} {row : List (List D × List D)} (h : Holds P f ds rs) (h' : RowOk P f row) : RowOk P f ((ds, rs) :: row) := by
  intro e he
  rcases List.mem_cons.1 he with rfl | he
  · exact h
  · exact h' e he
theorem TblOk.nil {P : Program} : TblOk P [] := fun _ h => by simp at h
theorem TblOk.cons {P : Program} {f : Nat} {row : List (List D × List D)} {t : Tbl} (h : RowOk P f row) (h' : TblOk P t) : TblOk P ((f, row) :: t) := by
  intro e he
  rcases List.mem_cons.1 he with rfl | he
  · exact h
  · exact h' e he
theorem args_nil {F : Mem} {L : Lay} : Args F L [] [] := ⟨rfl, fun i u v h => by simp at h⟩
theorem args_cons {F : Mem} {L : Lay} {d : D} {v : Value} {us : List U} {vs : List Value} (h : Rep F d v) (h' : Args F L us vs) : Args F L (.dat d :: us) (v :: vs) := by
  refine ⟨by simp [h'.1], fun i u x hu hx => ?_⟩
  cases i with
  | zero => simp at hu hx; subst hu; subst hx; exact .dat _ _ h
  | succ i => simp at hu hx; exact h'.2 i u x hu hx
def rowD (k : IntKind) (a : Option Addr) (len : Nat) (zs : List Int) : D := if a.isNone then .nil else .lst ((zs.take len).map (.int k))
theorem rep_row {W : World} {k : IntKind} {a : Option Addr} {len cap : Nat} {zs : List Int}
    (h : (a = none ∧ len = 0 ∧ cap = 0 ∧ zs = []) ∨ ∃ x, a = some x ∧ len ≤ cap ∧ cap ≤ maxLen ∧ zs.length = cap ∧ (∀ i, i < zs.length → W.cell? (x.add i) = some (.int k (zs.getD i 0))) ∧ ∀ n ∈ zs, (Lit.int k n).wf = true) :
    Rep (memOf W) (rowD k a len zs) (.slice a len cap) := by
  rcases h with ⟨rfl, rfl, rfl, rfl⟩ | ⟨x, rfl, h1, h2, h3, h4, _⟩
  · exact .nil
  · simp only [rowD, Option.isNone_some, Bool.false_eq_true, if_false]
    have hlen : ((zs.take len).map (D.int k)).length = len := by simp; omega
    have hget : ∀ (i : Nat) y, ((zs.take len).map (D.int k))[i]? = some y → i < zs.length ∧ y = .int k (zs.getD i 0) := by
      intro i y hy
      rw [List.getElem?_map] at hy
      obtain ⟨z, hz, rfl⟩ := Option.map_eq_some_iff.1 hy
      rw [List.getElem?_take] at hz
      split at hz
      · have hi := (List.getElem?_eq_some_iff.1 hz).1
        refine ⟨hi, ?_⟩
        simp [List.getD, hz]
      · simp at hz
    have key := Rep.lst (F := memOf W) ((zs.take len).map (D.int k)) x cap 1 (fun i _ => .int k (zs.getD i 0)) (by rw [hlen]; exact h1)
      (fun y hy => by obtain ⟨i, hi⟩ := List.getElem?_of_mem hy; obtain ⟨_, rfl⟩ := hget i y hi; rfl)
      (fun i y j z hy hz => by obtain ⟨_, rfl⟩ := hget i y hy; simp [D.cells] at hz; cases j with | zero => simp at hz; subst hz; rfl | succ j => simp at hz)
      (fun i y j z hy hz => by
        obtain ⟨hi, rfl⟩ := hget i y hy
        simp only [D.cells] at hz
        cases j with
        | zero => simp only [Nat.mul_one, Nat.add_zero]; exact h4 i hi
        | succ j => simp at hz)
      (fun i y j z hy hz => by
        obtain ⟨hi, rfl⟩ := hget i y hy
        simp only [D.cells] at hz
        cases j with
        | zero => simp at hz; subst hz; exact .int _ _
        | succ j => simp at hz)
    rw [hlen] at key
    exact key
end Go.Proofs.Ytjofhegodknmaaa.V
