/- V, 27: a call of data whose result stays the caller's, by hand. -/
import Derived.Test.YtjofhegodknmaaaV26
set_option linter.unusedSimpArgs false
set_option linter.unusedVariables false
namespace Go.Proofs.Ytjofhegodknmaaa.V
open Go Go.RowKit

theorem beqI_refl (n : Int) : beqI n n = true := by cases n <;> simp [beqI]
theorem beqB_refl : ∀ l : List UInt8, beqB l l = true
  | [] => rfl
  | a :: r => by simp only [beqB, beqB_refl r, Bool.and_true]; simp
theorem beqK_refl (k : IntKind) : beqK k k = true := by cases k <;> rfl
theorem beqO_refl (b : Bool) : beqO b b = true := by cases b <;> rfl
mutual
theorem beqD_refl : ∀ d : D, beqD d d = true
  | .int k n => by simp only [beqD, beqK_refl, beqI_refl, Bool.and_true]
  | .bool b => by simp only [beqD, beqO_refl]
  | .str s => by simp only [beqD, beqB_refl]
  | .nil => by simp only [beqD]
  | .lst l => by simp only [beqD, beqDs_refl l]
  | .agg l => by simp only [beqD, beqDs_refl l]
  | .fp l => by simp only [beqD, beqDs_refl l]
  | .fn f l => by simp [beqD, beqDs_refl l]
  | .nul k => by simp [beqD]
  | .sym k => by simp [beqD]
theorem beqDs_refl : ∀ l : List D, beqDs l l = true
  | [] => by simp only [beqDs]
  | d :: r => by simp only [beqDs, beqD_refl d, beqDs_refl r, Bool.and_true]
end
theorem beqUs_dats : ∀ l : List D, beqUs (l.map .dat) (l.map .dat) = true
  | [] => by simp [beqUs]
  | d :: r => by simp only [List.map_cons, beqUs, beqU, beqD_refl d, beqUs_dats r, Bool.and_true]
/-- one entry alone, of data -/
theorem inCalls_data {f nx' : Nat} {ds : List D} {u : U} {st' : Store} : inCalls [⟨f, ds.map .dat, [], 0, u, st', nx'⟩] f (ds.map .dat) [] 0 = some (u, st', nx') := by
  simp [inCalls, beqUs_dats, beqSt]
def callAt (o : Oper) : Option (Operand × List Operand) :=
  match o.op with
  | .call c => match c.callee with
    | .value f => some (f, c.args.toList)
    | _ => none
  | _ => none
def noTup : U → Bool
  | .tup _ => false
  | _ => true
section
variable {P : Program} {an : An}
theorem oper_own {k id n nx nx' : Nat} {o : Oper} {tm us caps : List U} {g : Nat → Option Obj} {fo : Operand} {xs : List Operand} {ds : List (D × List Nat)} {u : U} {st' : Store} {r : U × List (Nat × Obj)} (ho : orcU an tm o = none) (hs : opStep P g id tm o = none) (hc : callAt o = some (fo, xs))
    (hf : (evalU tm fo).bind targetU = some (n, caps)) (ha : xs.mapM (evalU tm) = some us) (hp : ((us ++ caps).any isPtr || an.io n || an.ior n) = false) (hd : (us ++ caps).mapM (toD g 40) = some ds) (hsp : an.spec n (ds.map (·.1)) = none)
    (hk : an.call n (ds.map fun d => U.dat d.1) [] 0 = some (u, st', nx')) (hg : grB [] 0 st' nx' = true) (hu : noTup u = true) (hb : bring st' (an.ownRes n) id u = some r) :
    oper P an (k + 3) id o tm g nx = some ⟨⟨r.1, ds.flatMap (·.2), snapAll g (ds.flatMap (·.2)) ++ r.2⟩, nx, false⟩ := by
  obtain ⟨c, e1, e2, e3⟩ : ∃ c, o.op = .call c ∧ c.callee = .value fo ∧ c.args.toList = xs := by
    unfold callAt at hc
    split at hc
    · rename_i c e
      split at hc
      · rename_i f e2
        simp only [Option.some.injEq, Prod.mk.injEq] at hc
        obtain ⟨rfl, rfl⟩ := hc
        exact ⟨c, e, e2, rfl⟩
      · simp at hc
    · simp at hc
  have hpc : pcall P an (k + 1) n (ds.map fun d => U.dat d.1) [] 0 = some (u, st', nx') := by
    simp only [pcall, hk, hg, if_true]
  have hdc : docall P an (k + 2) id n (us ++ caps) g nx = some ⟨⟨r.1, ds.flatMap (·.2), snapAll g (ds.flatMap (·.2)) ++ r.2⟩, nx, false⟩ := by
    show docall P an ((k + 1) + 1) _ _ _ _ _ = _
    simp only [docall, hp, Bool.false_eq_true, if_false, hd, forceDN_eq, hsp, forceL_eq, hpc]
    cases u <;> first | (simp [noTup] at hu; done) | simp only [hb, Option.map_some]
  show oper P an ((k + 2) + 1) _ _ _ _ _ = _
  simp only [oper, ho, hs, e1, e2, hf, e3, ha, hdc]
end
end Go.Proofs.Ytjofhegodknmaaa.V
