/- OrderForms: what V tells of the law. -/
import Derived.Test.YtlmiafoiiaeeeaaProg
import Derived.Test.YtlmiafoiiaeeeaaV18
namespace Go.Proofs.Ytlmiafoiiaeeeaa.Say
open Go
def an : V.An := ⟨fun f => [69,70,92,101,102,111,117,93,103,112,113,118,120,95,104,114,115,119,121].contains f, fun f => [].contains f⟩
theorem named : V.Named Try.prog := by
  have h : Try.prog.funcs.all (fun fn => fn.body.isNone || !(fn.name == "runtime.NumGoroutine")) = true := by kernel_rfl
  intro f fn c hf hc
  have := Array.all_eq_true_iff_forall_mem.1 h fn (Array.mem_of_getElem? hf)
  simpa [hc] using this
theorem follows : Try.prog.follows .mixedOrders = true := by kernel_rfl
set_option maxRecDepth 1000000 in
theorem OrderForms : ∃ k, V.yes (V.pcall Try.prog an k 8 [] [] 0) = true := ⟨300, by kernel_rfl⟩
end Go.Proofs.Ytlmiafoiiaeeeaa.Say
