/- V, single operations, by what they yield; calls out of runs. -/
import Derived.Test.YtjofhegodknmaaaV20
set_option linter.unusedSimpArgs false
set_option linter.unusedVariables false
namespace Go.Proofs.Ytjofhegodknmaaa.V
open Go Go.RowKit
def resL : List U → U
  | [u] => u
  | l => .tup l
theorem resL_tup {l : List U} (h : l.length ≠ 1) : resL l = .tup l := by
  unfold resL
  split
  · simp at h
  · rfl
section
variable [Sig] {P : Program}
theorem CallHolds.of_run {f : Nat} {fn : Func} {c : Code} (hfn : P.funcs[f]? = some fn) (hc : fn.body = some c) {us : List U} {st : Store} {nx : Nat} {s' : St} {x : X}
    (h : Run P c ⟨us ++ List.replicate (fn.ntmps - us.length) .undef, st, nx⟩ x s') (hx : x = .normal ∨ x = .ret) {rs : List U} (hres : fn.results.toList.mapM (resU P (getO s'.st) s'.tm) = some rs) :
    CallHolds P f us st nx (resL rs) s'.st := by
  refine ⟨⟨fn, c, hfn, hc⟩, fun w F L b0 vs hS hA hf hb => calls_of_wp hfn hc ?_⟩
  have hT : TR F L (us ++ List.replicate (fn.ntmps - us.length) U.undef) (vs.toArray ++ Array.replicate (fn.ntmps - vs.toArray.size) Go.undef) := by
    have hl := hA.1
    refine ⟨by simp [hl], fun t u' hu => ?_⟩
    by_cases ht : t < us.length
    · rw [List.getElem?_append_left ht] at hu
      have ht' : t < vs.length := by omega
      exact ⟨vs[t], by simp [Array.getElem?_append, ht'], hA.2 t u' _ hu (List.getElem?_eq_getElem ht')⟩
    · rw [List.getElem?_append_right (by omega)] at hu
      rw [List.getElem?_replicate] at hu
      split at hu
      · rename_i hlt
        obtain rfl := Option.some.inj hu
        have : ¬ t < vs.length := by omega
        have hlt' : t - vs.length < fn.ntmps - vs.length := by omega
        exact ⟨Go.undef, by simp [Array.getElem?_append, this, Array.getElem?_replicate, hlt'], .undef⟩
      · simp at hu
  refine Code.wp_mono (fun e a' w' hp => ?_) (h.wp w F L b0 _ hS hT rfl hf hb)
  obtain ⟨rfl, hd, F', L', hE, hS', hT'⟩ := hp
  obtain ⟨vs', hargs, hrun⟩ := results_ok hS' hT' hres
  have fin : ∃ v, (results fn a'.tmps).run P w' = .ok v w' ∧ CallPost w F L b0 (getO s'.st) (resL rs) (.returned v) w' := by
    refine ⟨_, hrun, _, F', L', rfl, hE, hS', ?_⟩
    by_cases h1 : rs.length = 1
    · obtain ⟨u', rfl⟩ := List.length_eq_one_iff.1 h1
      have hl := hargs.1
      simp at hl
      obtain ⟨v, rfl⟩ := List.length_eq_one_iff.1 hl
      simp only [List.size_toArray, List.length_cons, List.length_nil, Nat.zero_add, dite_true]
      exact hargs.2 0 u' v rfl rfl
    · have hl := hargs.1
      have h2 : ¬ vs'.toArray.size = 1 := by
        simp only [List.size_toArray]
        omega
      rw [dif_neg h2, resL_tup h1]
      exact .tup _ _ hl hargs.2
  rcases hx with rfl | rfl
  · exact ⟨hd, fin⟩
  · exact ⟨hd, fin⟩
end
def opAt (ops : Array Oper) (i : Nat) : Oper := (ops[i]?).getD default
section
variable {P : Program} {an : An} {ops : Array Oper} {base : Nat}
theorem oper_step {k id : Nat} {o : Oper} {tm : List U} {g : Nat → Option Obj} {nx : Nat} {r : Res} (ho : orcU an tm o = none) (h : opStep P g id tm o = some r) : oper P an (k + 1) id o tm g nx = some ⟨r, nx, false⟩ := by
  simp only [oper, ho, h]
end
section
variable {P : Program} {g : Nat → Option Obj} {id : Nat} {tm : List U} {o : Oper}
def F0 : Mem := fun _ => none
theorem opPure_bin [Sig] {op : BinOp} {x y : Operand} {t w : TypeId} {k j : IntKind} {m n : Int} {d : D} (ho : o.op = .binOp op t x y w) (hx : evalU tm x = some (.dat (.int k m))) (hy : evalU tm y = some (.dat (.int j n)))
    (h : OrcHolds P (.binOp op t x y w) [.int k m, .int j n] d) (hd : ∀ v, Rep F0 d v → constD v = some d) : opPure P tm o = some ⟨.dat d, [], []⟩ := by
  unfold opPure
  have hops : o.op.operands.toList = [x, y] := by rw [ho]; rfl
  rw [hops]
  have e1 : (evalU tm x).bind valU = some (.int k m) := by rw [hx]; rfl
  have e2 : (evalU tm y).bind valU = some (.int j n) := by rw [hy]; rfl
  simp only [List.all_cons, List.all_nil, e1, e2, Option.isSome_some, Bool.and_self, if_true, Bool.and_true]
  obtain ⟨v, hv, hr⟩ := h F0 (fun _ _ h => by simp [F0] at h) (fun x => ((evalU tm x).bind valU).getD undef) o ho (fun i z e hz he => by
    have h2 : (Op.binOp op t x y w).operands.toList = [x, y] := rfl
    rw [h2] at hz
    match i with
    | 0 => simp at hz he; subst hz; subst he; rw [e1]; exact .int _ _
    | 1 => simp at hz he; subst hz; subst he; rw [e2]; exact .int _ _
    | i + 2 => simp at hz)
  rw [ho]
  simp only [hv, hd v hr, Option.map_some]
theorem const_bool [Sig] {b : Bool} : ∀ v, Rep F0 (.bool b) v → constD v = some (.bool b) := by
  intro v h
  cases h
  rfl
theorem const_int [Sig] {k : IntKind} {n : Int} : ∀ v, Rep F0 (.int k n) v → constD v = some (.int k n) := by
  intro v h
  cases h
  rfl
end
theorem toD_dats {g : Nat → Option Obj} {k : Nat} : ∀ l : List D, (l.map U.dat).mapM (toD g (k + 1)) = some (l.map fun d => (d, []))
  | [] => rfl
  | d :: r => by
    rw [List.map_cons, List.mapM_cons, toD_dats r]
    rfl
section
variable [Sig] {P : Program} {an : An}
theorem Run.skip (hN : Good P an) (hR : RegsP P) (hm : P.follows .mixedOrders = true) {s : St} : Run P .skip s .normal s := Run.of_exec hN hR hm (k := 1) (by simp [Regs]) (by simp [exec])
theorem Run.exit (hN : Good P an) (hR : RegsP P) (hm : P.follows .mixedOrders = true) {s : St} {id : Nat} : Run P (.exit id) s (.exit id) s := Run.of_exec hN hR hm (k := 1) (by simp [Regs]) (by simp [exec])
theorem Run.ret (hN : Good P an) (hR : RegsP P) (hm : P.follows .mixedOrders = true) {s : St} : Run P .ret s .ret s := Run.of_exec hN hR hm (k := 1) (by simp [Regs]) (by simp [exec])
end
end Go.Proofs.Ytjofhegodknmaaa.V
