/- What all texts of this seat begin with: what V wants of the program, parts of code. Mine. -/
import Derived.Test.YtjofhegodknmaaaChecked
import Derived.Test.YtjofhegodknmaaaV28
set_option linter.unusedVariables false
set_option linter.unusedSimpArgs false
namespace Go.Proofs.Ytjofhegodknmaaa.Say
open Go Go.RowKit
open V (D)
instance : V.Sig := V.sig0
theorem named : V.Named Try.prog := by
  have h : Try.prog.funcs.all (fun fn => fn.body.isNone || !(fn.name == "runtime.NumGoroutine")) = true := by kernel_rfl
  intro f fn c hf hc
  have := Array.all_eq_true_iff_forall_mem.1 h fn (Array.mem_of_getElem? hf)
  simpa [hc] using this
theorem regs : V.RegsP Try.prog := V.regs_of_check Try.checked.codeOk
theorem follows : Try.prog.follows .mixedOrders = true := by kernel_rfl
/-- nothing is known -/
def anE : V.An := { io := fun _ => false, ownRes := fun _ => false, spec := fun _ _ => none }
theorem goodE (s : V.Sig) : @V.Good s Try.prog anE := @V.Good.mk s _ _ named (fun _ _ _ h => nomatch h) (fun _ _ _ _ h => nomatch h) (V.call_none rfl)
def cf : Code → Code
  | .seq a _ => a
  | c => c
def cs : Code → Code
  | .seq _ b => b
  | c => c
def cb : Code → Code
  | .block _ b => b
  | .loop b => b
  | c => c
def ct : Code → Code
  | .cond _ a _ => a
  | c => c
def ce : Code → Code
  | .cond _ _ b => b
  | c => c
def cj : Nat → Code → Code
  | 0, c => c
  | n + 1, c => cj n (cs c)
def ops : Code → Array Oper
  | .region _ o _ => o
  | _ => #[]
def nd : Option (V.X × V.St) → V.St
  | some (_, s) => s
  | none => default
def mt : D := V.txt []
def sch : D := .agg [.nil, .nil, .nil]
end Go.Proofs.Ytjofhegodknmaaa.Say
