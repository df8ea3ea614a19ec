/- What closed calls yield. -/
import Derived.Test.YtfkpjehjkhofhaaClone
import Derived.Test.YtfkpjehjkhofhaaFast
set_option linter.unusedVariables false
set_option linter.unusedSimpArgs false
namespace Go.Proofs.Ytfkpjehjkhofhaa.Say
open Go Go.RowKit
open V (D)
instance : V.Sig := V.sig0
theorem named : V.Named Try.prog := by
  have h : Try.prog.funcs.all (fun fn => fn.body.isNone || !(fn.name == "runtime.NumGoroutine")) = true := by kernel_rfl
  intro f fn c hf hc
  have := Array.all_eq_true_iff_forall_mem.1 h fn (Array.mem_of_getElem? hf)
  simpa [hc] using this
theorem regs : V.RegsP Try.prog := V.regs_of_check Try.checked.codeOk
theorem follows : Try.prog.follows .mixedOrders = true := by kernel_rfl
def d0 : V.D := .fp [V.txt [97, 46, 65], .int .i64 3, .int .i64 0, .lst [V.txt [97, 46, 65]], .int .i64 0]
def d1 : V.D := .fp [V.txt [105, 56], .int .i64 2, .int .i64 0, .nil, .int .i64 0]
def d2 : V.D := .fp [V.txt [97, 46, 66], .int .i64 3, .int .i64 0, .lst [V.txt [97, 46, 66]], .int .i64 0]
def d3 : V.D := .fp [V.txt [97, 46, 67], .int .i64 3, .int .i64 0, .lst [V.txt [97, 46, 67]], .int .i64 0]
def d4 : V.D := .agg [.lst [.agg [.int .i64 4, V.txt [97, 46, 65], .lst [.agg [.int .i64 1, .int .i64 1, V.txt [97, 46, 66], V.txt [97], .bool false, .int .i64 0, .int .i64 0, V.txt [], .nil, .nil]]], .agg [.int .i64 4, V.txt [97, 46, 66], .lst [.agg [.int .i64 1, .int .i64 1, V.txt [97, 46, 67], V.txt [97], .bool false, .int .i64 0, .int .i64 0, V.txt [], .nil, .nil]]], .agg [.int .i64 4, V.txt [97, 46, 67], .lst [.agg [.int .i64 1, .int .i64 1, V.txt [105, 56], V.txt [97], .bool false, .int .i64 0, .int .i64 0, V.txt [], .nil, .nil]]]], .nil, .nil]
def d5 : V.D := .agg [.int .i64 4, V.txt [97, 46, 67], .lst [.agg [.int .i64 1, .int .i64 1, V.txt [105, 56], V.txt [97], .bool false, .int .i64 0, .int .i64 0, V.txt [], .nil, .nil]]]
def d6 : V.D := .fp [V.txt [97, 46, 68], .int .i64 3, .int .i64 0, .lst [V.txt [97, 46, 68]], .int .i64 0]
def d7 : V.D := .agg [.lst [.agg [.int .i64 4, V.txt [97, 46, 65], .lst [.agg [.int .i64 1, .int .i64 1, V.txt [97, 46, 66], V.txt [97], .bool false, .int .i64 0, .int .i64 0, V.txt [], .nil, .nil]]], .agg [.int .i64 4, V.txt [97, 46, 66], .lst [.agg [.int .i64 1, .int .i64 1, V.txt [97, 46, 67], V.txt [97], .bool false, .int .i64 0, .int .i64 0, V.txt [], .nil, .nil]]], .agg [.int .i64 4, V.txt [97, 46, 67], .lst [.agg [.int .i64 1, .int .i64 1, V.txt [97, 46, 68], V.txt [97], .bool false, .int .i64 0, .int .i64 0, V.txt [], .nil, .nil]]], .agg [.int .i64 4, V.txt [97, 46, 68], .lst [.agg [.int .i64 1, .int .i64 1, V.txt [105, 56], V.txt [97], .bool false, .int .i64 0, .int .i64 0, V.txt [], .nil, .nil]]]], .nil, .nil]
def d8 : V.D := .agg [.int .i64 4, V.txt [97, 46, 67], .lst [.agg [.int .i64 1, .int .i64 1, V.txt [97, 46, 68], V.txt [97], .bool false, .int .i64 0, .int .i64 0, V.txt [], .nil, .nil]]]
def d9 : V.D := .lst [.agg [.int .i64 4, V.txt [97, 46, 65], .lst [.agg [.int .i64 1, .int .i64 1, V.txt [97, 46, 66], V.txt [97], .bool false, .int .i64 0, .int .i64 0, V.txt [], .nil, .nil]]], .agg [.int .i64 4, V.txt [97, 46, 66], .lst [.agg [.int .i64 1, .int .i64 1, V.txt [97, 46, 67], V.txt [97], .bool false, .int .i64 0, .int .i64 0, V.txt [], .nil, .nil]]], .agg [.int .i64 4, V.txt [97, 46, 67], .lst [.agg [.int .i64 1, .int .i64 1, V.txt [97, 46, 68], V.txt [97], .bool false, .int .i64 0, .int .i64 0, V.txt [], .nil, .nil]]], .agg [.int .i64 4, V.txt [97, 46, 68], .lst [.agg [.int .i64 1, .int .i64 1, V.txt [105, 56], V.txt [97], .bool false, .int .i64 0, .int .i64 0, V.txt [], .nil, .nil]]]]
def d10 : V.D := .fp [V.txt [97, 46, 69], .int .i64 3, .int .i64 0, .lst [V.txt [97, 46, 69]], .int .i64 0]
def d11 : V.D := .agg [.lst [.agg [.int .i64 4, V.txt [97, 46, 65], .lst [.agg [.int .i64 1, .int .i64 1, V.txt [97, 46, 66], V.txt [97], .bool false, .int .i64 0, .int .i64 0, V.txt [], .nil, .nil]]], .agg [.int .i64 4, V.txt [97, 46, 66], .lst [.agg [.int .i64 1, .int .i64 1, V.txt [97, 46, 67], V.txt [97], .bool false, .int .i64 0, .int .i64 0, V.txt [], .nil, .nil]]], .agg [.int .i64 4, V.txt [97, 46, 67], .lst [.agg [.int .i64 1, .int .i64 1, V.txt [97, 46, 68], V.txt [97], .bool false, .int .i64 0, .int .i64 0, V.txt [], .nil, .nil]]], .agg [.int .i64 4, V.txt [97, 46, 68], .lst [.agg [.int .i64 1, .int .i64 1, V.txt [97, 46, 69], V.txt [97], .bool false, .int .i64 0, .int .i64 0, V.txt [], .nil, .nil]]], .agg [.int .i64 4, V.txt [97, 46, 69], .lst [.agg [.int .i64 1, .int .i64 1, V.txt [105, 56], V.txt [97], .bool false, .int .i64 0, .int .i64 0, V.txt [], .nil, .nil]]]], .nil, .nil]
def d12 : V.D := .lst [.agg [.int .i64 4, V.txt [97, 46, 65], .lst [.agg [.int .i64 1, .int .i64 1, V.txt [97, 46, 66], V.txt [97], .bool false, .int .i64 0, .int .i64 0, V.txt [], .nil, .nil]]], .agg [.int .i64 4, V.txt [97, 46, 66], .lst [.agg [.int .i64 1, .int .i64 1, V.txt [97, 46, 67], V.txt [97], .bool false, .int .i64 0, .int .i64 0, V.txt [], .nil, .nil]]], .agg [.int .i64 4, V.txt [97, 46, 67], .lst [.agg [.int .i64 1, .int .i64 1, V.txt [97, 46, 68], V.txt [97], .bool false, .int .i64 0, .int .i64 0, V.txt [], .nil, .nil]]], .agg [.int .i64 4, V.txt [97, 46, 68], .lst [.agg [.int .i64 1, .int .i64 1, V.txt [97, 46, 69], V.txt [97], .bool false, .int .i64 0, .int .i64 0, V.txt [], .nil, .nil]]], .agg [.int .i64 4, V.txt [97, 46, 69], .lst [.agg [.int .i64 1, .int .i64 1, V.txt [105, 56], V.txt [97], .bool false, .int .i64 0, .int .i64 0, V.txt [], .nil, .nil]]]]
def d13 : V.D := .fp [V.txt [97, 46, 70], .int .i64 3, .int .i64 0, .lst [V.txt [97, 46, 70]], .int .i64 0]
def d14 : V.D := .agg [.lst [.agg [.int .i64 4, V.txt [97, 46, 65], .lst [.agg [.int .i64 1, .int .i64 1, V.txt [97, 46, 66], V.txt [97], .bool false, .int .i64 0, .int .i64 0, V.txt [], .nil, .nil]]], .agg [.int .i64 4, V.txt [97, 46, 66], .lst [.agg [.int .i64 1, .int .i64 1, V.txt [97, 46, 67], V.txt [97], .bool false, .int .i64 0, .int .i64 0, V.txt [], .nil, .nil]]], .agg [.int .i64 4, V.txt [97, 46, 67], .lst [.agg [.int .i64 1, .int .i64 1, V.txt [97, 46, 68], V.txt [97], .bool false, .int .i64 0, .int .i64 0, V.txt [], .nil, .nil]]], .agg [.int .i64 4, V.txt [97, 46, 68], .lst [.agg [.int .i64 1, .int .i64 1, V.txt [97, 46, 69], V.txt [97], .bool false, .int .i64 0, .int .i64 0, V.txt [], .nil, .nil]]], .agg [.int .i64 4, V.txt [97, 46, 69], .lst [.agg [.int .i64 1, .int .i64 1, V.txt [97, 46, 70], V.txt [97], .bool false, .int .i64 0, .int .i64 0, V.txt [], .nil, .nil]]], .agg [.int .i64 4, V.txt [97, 46, 70], .lst [.agg [.int .i64 1, .int .i64 1, V.txt [105, 56], V.txt [97], .bool false, .int .i64 0, .int .i64 0, V.txt [], .nil, .nil]]]], .nil, .nil]
def d15 : V.D := .lst [.agg [.int .i64 4, V.txt [97, 46, 65], .lst [.agg [.int .i64 1, .int .i64 1, V.txt [97, 46, 66], V.txt [97], .bool false, .int .i64 0, .int .i64 0, V.txt [], .nil, .nil]]], .agg [.int .i64 4, V.txt [97, 46, 66], .lst [.agg [.int .i64 1, .int .i64 1, V.txt [97, 46, 67], V.txt [97], .bool false, .int .i64 0, .int .i64 0, V.txt [], .nil, .nil]]], .agg [.int .i64 4, V.txt [97, 46, 67], .lst [.agg [.int .i64 1, .int .i64 1, V.txt [97, 46, 68], V.txt [97], .bool false, .int .i64 0, .int .i64 0, V.txt [], .nil, .nil]]], .agg [.int .i64 4, V.txt [97, 46, 68], .lst [.agg [.int .i64 1, .int .i64 1, V.txt [97, 46, 69], V.txt [97], .bool false, .int .i64 0, .int .i64 0, V.txt [], .nil, .nil]]], .agg [.int .i64 4, V.txt [97, 46, 69], .lst [.agg [.int .i64 1, .int .i64 1, V.txt [97, 46, 70], V.txt [97], .bool false, .int .i64 0, .int .i64 0, V.txt [], .nil, .nil]]], .agg [.int .i64 4, V.txt [97, 46, 70], .lst [.agg [.int .i64 1, .int .i64 1, V.txt [105, 56], V.txt [97], .bool false, .int .i64 0, .int .i64 0, V.txt [], .nil, .nil]]]]
def d16 : V.D := .fp [V.txt [97, 46, 71], .int .i64 3, .int .i64 0, .lst [V.txt [97, 46, 71]], .int .i64 0]
def d17 : V.D := .agg [.lst [.agg [.int .i64 4, V.txt [97, 46, 65], .lst [.agg [.int .i64 1, .int .i64 1, V.txt [97, 46, 66], V.txt [97], .bool false, .int .i64 0, .int .i64 0, V.txt [], .nil, .nil]]], .agg [.int .i64 4, V.txt [97, 46, 66], .lst [.agg [.int .i64 1, .int .i64 1, V.txt [97, 46, 67], V.txt [97], .bool false, .int .i64 0, .int .i64 0, V.txt [], .nil, .nil]]], .agg [.int .i64 4, V.txt [97, 46, 67], .lst [.agg [.int .i64 1, .int .i64 1, V.txt [97, 46, 68], V.txt [97], .bool false, .int .i64 0, .int .i64 0, V.txt [], .nil, .nil]]], .agg [.int .i64 4, V.txt [97, 46, 68], .lst [.agg [.int .i64 1, .int .i64 1, V.txt [97, 46, 69], V.txt [97], .bool false, .int .i64 0, .int .i64 0, V.txt [], .nil, .nil]]], .agg [.int .i64 4, V.txt [97, 46, 69], .lst [.agg [.int .i64 1, .int .i64 1, V.txt [97, 46, 70], V.txt [97], .bool false, .int .i64 0, .int .i64 0, V.txt [], .nil, .nil]]], .agg [.int .i64 4, V.txt [97, 46, 70], .lst [.agg [.int .i64 1, .int .i64 1, V.txt [97, 46, 71], V.txt [97], .bool false, .int .i64 0, .int .i64 0, V.txt [], .nil, .nil]]], .agg [.int .i64 4, V.txt [97, 46, 71], .lst [.agg [.int .i64 1, .int .i64 1, V.txt [105, 56], V.txt [97], .bool false, .int .i64 0, .int .i64 0, V.txt [], .nil, .nil]]]], .nil, .nil]
def d18 : V.D := .lst [.agg [.int .i64 4, V.txt [97, 46, 65], .lst [.agg [.int .i64 1, .int .i64 1, V.txt [97, 46, 66], V.txt [97], .bool false, .int .i64 0, .int .i64 0, V.txt [], .nil, .nil]]], .agg [.int .i64 4, V.txt [97, 46, 66], .lst [.agg [.int .i64 1, .int .i64 1, V.txt [97, 46, 67], V.txt [97], .bool false, .int .i64 0, .int .i64 0, V.txt [], .nil, .nil]]], .agg [.int .i64 4, V.txt [97, 46, 67], .lst [.agg [.int .i64 1, .int .i64 1, V.txt [97, 46, 68], V.txt [97], .bool false, .int .i64 0, .int .i64 0, V.txt [], .nil, .nil]]], .agg [.int .i64 4, V.txt [97, 46, 68], .lst [.agg [.int .i64 1, .int .i64 1, V.txt [97, 46, 69], V.txt [97], .bool false, .int .i64 0, .int .i64 0, V.txt [], .nil, .nil]]], .agg [.int .i64 4, V.txt [97, 46, 69], .lst [.agg [.int .i64 1, .int .i64 1, V.txt [97, 46, 70], V.txt [97], .bool false, .int .i64 0, .int .i64 0, V.txt [], .nil, .nil]]], .agg [.int .i64 4, V.txt [97, 46, 70], .lst [.agg [.int .i64 1, .int .i64 1, V.txt [97, 46, 71], V.txt [97], .bool false, .int .i64 0, .int .i64 0, V.txt [], .nil, .nil]]], .agg [.int .i64 4, V.txt [97, 46, 71], .lst [.agg [.int .i64 1, .int .i64 1, V.txt [105, 56], V.txt [97], .bool false, .int .i64 0, .int .i64 0, V.txt [], .nil, .nil]]]]
def d19 : V.D := .fp [V.txt [97, 46, 72], .int .i64 3, .int .i64 0, .lst [V.txt [97, 46, 72]], .int .i64 0]
def d20 : V.D := .agg [.lst [.agg [.int .i64 4, V.txt [97, 46, 65], .lst [.agg [.int .i64 1, .int .i64 1, V.txt [97, 46, 66], V.txt [97], .bool false, .int .i64 0, .int .i64 0, V.txt [], .nil, .nil]]], .agg [.int .i64 4, V.txt [97, 46, 66], .lst [.agg [.int .i64 1, .int .i64 1, V.txt [97, 46, 67], V.txt [97], .bool false, .int .i64 0, .int .i64 0, V.txt [], .nil, .nil]]], .agg [.int .i64 4, V.txt [97, 46, 67], .lst [.agg [.int .i64 1, .int .i64 1, V.txt [97, 46, 68], V.txt [97], .bool false, .int .i64 0, .int .i64 0, V.txt [], .nil, .nil]]], .agg [.int .i64 4, V.txt [97, 46, 68], .lst [.agg [.int .i64 1, .int .i64 1, V.txt [97, 46, 69], V.txt [97], .bool false, .int .i64 0, .int .i64 0, V.txt [], .nil, .nil]]], .agg [.int .i64 4, V.txt [97, 46, 69], .lst [.agg [.int .i64 1, .int .i64 1, V.txt [97, 46, 70], V.txt [97], .bool false, .int .i64 0, .int .i64 0, V.txt [], .nil, .nil]]], .agg [.int .i64 4, V.txt [97, 46, 70], .lst [.agg [.int .i64 1, .int .i64 1, V.txt [97, 46, 71], V.txt [97], .bool false, .int .i64 0, .int .i64 0, V.txt [], .nil, .nil]]], .agg [.int .i64 4, V.txt [97, 46, 71], .lst [.agg [.int .i64 1, .int .i64 1, V.txt [97, 46, 72], V.txt [97], .bool false, .int .i64 0, .int .i64 0, V.txt [], .nil, .nil]]], .agg [.int .i64 4, V.txt [97, 46, 72], .lst [.agg [.int .i64 1, .int .i64 1, V.txt [105, 56], V.txt [97], .bool false, .int .i64 0, .int .i64 0, V.txt [], .nil, .nil]]]], .nil, .nil]
def d21 : V.D := .lst [.agg [.int .i64 4, V.txt [97, 46, 65], .lst [.agg [.int .i64 1, .int .i64 1, V.txt [97, 46, 66], V.txt [97], .bool false, .int .i64 0, .int .i64 0, V.txt [], .nil, .nil]]], .agg [.int .i64 4, V.txt [97, 46, 66], .lst [.agg [.int .i64 1, .int .i64 1, V.txt [97, 46, 67], V.txt [97], .bool false, .int .i64 0, .int .i64 0, V.txt [], .nil, .nil]]], .agg [.int .i64 4, V.txt [97, 46, 67], .lst [.agg [.int .i64 1, .int .i64 1, V.txt [97, 46, 68], V.txt [97], .bool false, .int .i64 0, .int .i64 0, V.txt [], .nil, .nil]]], .agg [.int .i64 4, V.txt [97, 46, 68], .lst [.agg [.int .i64 1, .int .i64 1, V.txt [97, 46, 69], V.txt [97], .bool false, .int .i64 0, .int .i64 0, V.txt [], .nil, .nil]]], .agg [.int .i64 4, V.txt [97, 46, 69], .lst [.agg [.int .i64 1, .int .i64 1, V.txt [97, 46, 70], V.txt [97], .bool false, .int .i64 0, .int .i64 0, V.txt [], .nil, .nil]]], .agg [.int .i64 4, V.txt [97, 46, 70], .lst [.agg [.int .i64 1, .int .i64 1, V.txt [97, 46, 71], V.txt [97], .bool false, .int .i64 0, .int .i64 0, V.txt [], .nil, .nil]]], .agg [.int .i64 4, V.txt [97, 46, 71], .lst [.agg [.int .i64 1, .int .i64 1, V.txt [97, 46, 72], V.txt [97], .bool false, .int .i64 0, .int .i64 0, V.txt [], .nil, .nil]]], .agg [.int .i64 4, V.txt [97, 46, 72], .lst [.agg [.int .i64 1, .int .i64 1, V.txt [105, 56], V.txt [97], .bool false, .int .i64 0, .int .i64 0, V.txt [], .nil, .nil]]]]
def d22 : V.D := .fp [V.txt [97, 46, 73], .int .i64 3, .int .i64 0, .lst [V.txt [97, 46, 73]], .int .i64 0]
def d23 : V.D := .agg [.lst [.agg [.int .i64 4, V.txt [97, 46, 65], .lst [.agg [.int .i64 1, .int .i64 1, V.txt [97, 46, 66], V.txt [97], .bool false, .int .i64 0, .int .i64 0, V.txt [], .nil, .nil]]], .agg [.int .i64 4, V.txt [97, 46, 66], .lst [.agg [.int .i64 1, .int .i64 1, V.txt [97, 46, 67], V.txt [97], .bool false, .int .i64 0, .int .i64 0, V.txt [], .nil, .nil]]], .agg [.int .i64 4, V.txt [97, 46, 67], .lst [.agg [.int .i64 1, .int .i64 1, V.txt [97, 46, 68], V.txt [97], .bool false, .int .i64 0, .int .i64 0, V.txt [], .nil, .nil]]], .agg [.int .i64 4, V.txt [97, 46, 68], .lst [.agg [.int .i64 1, .int .i64 1, V.txt [97, 46, 69], V.txt [97], .bool false, .int .i64 0, .int .i64 0, V.txt [], .nil, .nil]]], .agg [.int .i64 4, V.txt [97, 46, 69], .lst [.agg [.int .i64 1, .int .i64 1, V.txt [97, 46, 70], V.txt [97], .bool false, .int .i64 0, .int .i64 0, V.txt [], .nil, .nil]]], .agg [.int .i64 4, V.txt [97, 46, 70], .lst [.agg [.int .i64 1, .int .i64 1, V.txt [97, 46, 71], V.txt [97], .bool false, .int .i64 0, .int .i64 0, V.txt [], .nil, .nil]]], .agg [.int .i64 4, V.txt [97, 46, 71], .lst [.agg [.int .i64 1, .int .i64 1, V.txt [97, 46, 72], V.txt [97], .bool false, .int .i64 0, .int .i64 0, V.txt [], .nil, .nil]]], .agg [.int .i64 4, V.txt [97, 46, 72], .lst [.agg [.int .i64 1, .int .i64 1, V.txt [97, 46, 73], V.txt [97], .bool false, .int .i64 0, .int .i64 0, V.txt [], .nil, .nil]]], .agg [.int .i64 4, V.txt [97, 46, 73], .lst [.agg [.int .i64 1, .int .i64 1, V.txt [105, 56], V.txt [97], .bool false, .int .i64 0, .int .i64 0, V.txt [], .nil, .nil]]]], .nil, .nil]
def d24 : V.D := .lst [.agg [.int .i64 4, V.txt [97, 46, 65], .lst [.agg [.int .i64 1, .int .i64 1, V.txt [97, 46, 66], V.txt [97], .bool false, .int .i64 0, .int .i64 0, V.txt [], .nil, .nil]]], .agg [.int .i64 4, V.txt [97, 46, 66], .lst [.agg [.int .i64 1, .int .i64 1, V.txt [97, 46, 67], V.txt [97], .bool false, .int .i64 0, .int .i64 0, V.txt [], .nil, .nil]]], .agg [.int .i64 4, V.txt [97, 46, 67], .lst [.agg [.int .i64 1, .int .i64 1, V.txt [97, 46, 68], V.txt [97], .bool false, .int .i64 0, .int .i64 0, V.txt [], .nil, .nil]]], .agg [.int .i64 4, V.txt [97, 46, 68], .lst [.agg [.int .i64 1, .int .i64 1, V.txt [97, 46, 69], V.txt [97], .bool false, .int .i64 0, .int .i64 0, V.txt [], .nil, .nil]]], .agg [.int .i64 4, V.txt [97, 46, 69], .lst [.agg [.int .i64 1, .int .i64 1, V.txt [97, 46, 70], V.txt [97], .bool false, .int .i64 0, .int .i64 0, V.txt [], .nil, .nil]]], .agg [.int .i64 4, V.txt [97, 46, 70], .lst [.agg [.int .i64 1, .int .i64 1, V.txt [97, 46, 71], V.txt [97], .bool false, .int .i64 0, .int .i64 0, V.txt [], .nil, .nil]]], .agg [.int .i64 4, V.txt [97, 46, 71], .lst [.agg [.int .i64 1, .int .i64 1, V.txt [97, 46, 72], V.txt [97], .bool false, .int .i64 0, .int .i64 0, V.txt [], .nil, .nil]]], .agg [.int .i64 4, V.txt [97, 46, 72], .lst [.agg [.int .i64 1, .int .i64 1, V.txt [97, 46, 73], V.txt [97], .bool false, .int .i64 0, .int .i64 0, V.txt [], .nil, .nil]]], .agg [.int .i64 4, V.txt [97, 46, 73], .lst [.agg [.int .i64 1, .int .i64 1, V.txt [105, 56], V.txt [97], .bool false, .int .i64 0, .int .i64 0, V.txt [], .nil, .nil]]]]
def d25 : V.D := .fp [V.txt [97, 46, 74], .int .i64 3, .int .i64 0, .lst [V.txt [97, 46, 74]], .int .i64 0]
def d26 : V.D := .agg [.lst [.agg [.int .i64 4, V.txt [97, 46, 65], .lst [.agg [.int .i64 1, .int .i64 1, V.txt [97, 46, 66], V.txt [97], .bool false, .int .i64 0, .int .i64 0, V.txt [], .nil, .nil]]], .agg [.int .i64 4, V.txt [97, 46, 66], .lst [.agg [.int .i64 1, .int .i64 1, V.txt [97, 46, 67], V.txt [97], .bool false, .int .i64 0, .int .i64 0, V.txt [], .nil, .nil]]], .agg [.int .i64 4, V.txt [97, 46, 67], .lst [.agg [.int .i64 1, .int .i64 1, V.txt [97, 46, 68], V.txt [97], .bool false, .int .i64 0, .int .i64 0, V.txt [], .nil, .nil]]], .agg [.int .i64 4, V.txt [97, 46, 68], .lst [.agg [.int .i64 1, .int .i64 1, V.txt [97, 46, 69], V.txt [97], .bool false, .int .i64 0, .int .i64 0, V.txt [], .nil, .nil]]], .agg [.int .i64 4, V.txt [97, 46, 69], .lst [.agg [.int .i64 1, .int .i64 1, V.txt [97, 46, 70], V.txt [97], .bool false, .int .i64 0, .int .i64 0, V.txt [], .nil, .nil]]], .agg [.int .i64 4, V.txt [97, 46, 70], .lst [.agg [.int .i64 1, .int .i64 1, V.txt [97, 46, 71], V.txt [97], .bool false, .int .i64 0, .int .i64 0, V.txt [], .nil, .nil]]], .agg [.int .i64 4, V.txt [97, 46, 71], .lst [.agg [.int .i64 1, .int .i64 1, V.txt [97, 46, 72], V.txt [97], .bool false, .int .i64 0, .int .i64 0, V.txt [], .nil, .nil]]], .agg [.int .i64 4, V.txt [97, 46, 72], .lst [.agg [.int .i64 1, .int .i64 1, V.txt [97, 46, 73], V.txt [97], .bool false, .int .i64 0, .int .i64 0, V.txt [], .nil, .nil]]], .agg [.int .i64 4, V.txt [97, 46, 73], .lst [.agg [.int .i64 1, .int .i64 1, V.txt [97, 46, 74], V.txt [97], .bool false, .int .i64 0, .int .i64 0, V.txt [], .nil, .nil]]], .agg [.int .i64 4, V.txt [97, 46, 74], .lst [.agg [.int .i64 1, .int .i64 1, V.txt [105, 56], V.txt [97], .bool false, .int .i64 0, .int .i64 0, V.txt [], .nil, .nil]]]], .nil, .nil]
def d27 : V.D := .lst [.agg [.int .i64 4, V.txt [97, 46, 65], .lst [.agg [.int .i64 1, .int .i64 1, V.txt [97, 46, 66], V.txt [97], .bool false, .int .i64 0, .int .i64 0, V.txt [], .nil, .nil]]], .agg [.int .i64 4, V.txt [97, 46, 66], .lst [.agg [.int .i64 1, .int .i64 1, V.txt [97, 46, 67], V.txt [97], .bool false, .int .i64 0, .int .i64 0, V.txt [], .nil, .nil]]], .agg [.int .i64 4, V.txt [97, 46, 67], .lst [.agg [.int .i64 1, .int .i64 1, V.txt [97, 46, 68], V.txt [97], .bool false, .int .i64 0, .int .i64 0, V.txt [], .nil, .nil]]], .agg [.int .i64 4, V.txt [97, 46, 68], .lst [.agg [.int .i64 1, .int .i64 1, V.txt [97, 46, 69], V.txt [97], .bool false, .int .i64 0, .int .i64 0, V.txt [], .nil, .nil]]], .agg [.int .i64 4, V.txt [97, 46, 69], .lst [.agg [.int .i64 1, .int .i64 1, V.txt [97, 46, 70], V.txt [97], .bool false, .int .i64 0, .int .i64 0, V.txt [], .nil, .nil]]], .agg [.int .i64 4, V.txt [97, 46, 70], .lst [.agg [.int .i64 1, .int .i64 1, V.txt [97, 46, 71], V.txt [97], .bool false, .int .i64 0, .int .i64 0, V.txt [], .nil, .nil]]], .agg [.int .i64 4, V.txt [97, 46, 71], .lst [.agg [.int .i64 1, .int .i64 1, V.txt [97, 46, 72], V.txt [97], .bool false, .int .i64 0, .int .i64 0, V.txt [], .nil, .nil]]], .agg [.int .i64 4, V.txt [97, 46, 72], .lst [.agg [.int .i64 1, .int .i64 1, V.txt [97, 46, 73], V.txt [97], .bool false, .int .i64 0, .int .i64 0, V.txt [], .nil, .nil]]], .agg [.int .i64 4, V.txt [97, 46, 73], .lst [.agg [.int .i64 1, .int .i64 1, V.txt [97, 46, 74], V.txt [97], .bool false, .int .i64 0, .int .i64 0, V.txt [], .nil, .nil]]], .agg [.int .i64 4, V.txt [97, 46, 74], .lst [.agg [.int .i64 1, .int .i64 1, V.txt [105, 56], V.txt [97], .bool false, .int .i64 0, .int .i64 0, V.txt [], .nil, .nil]]]]
def d28 : V.D := .agg [.lst [.agg [.int .i64 4, V.txt [97, 46, 65], .lst [.agg [.int .i64 1, .int .i64 1, V.txt [97, 46, 65], V.txt [], .bool false, .int .i64 0, .int .i64 0, V.txt [], .nil, .nil]]], .agg [.int .i64 4, V.txt [97, 46, 66], .lst [.agg [.int .i64 1, .int .i64 1, V.txt [105, 56], V.txt [], .bool false, .int .i64 0, .int .i64 0, V.txt [], .nil, .nil]]]], .nil, .nil]
def d29 : V.D := .agg [.int .i64 12, .int .i64 0, V.txt [], .lst [.agg [.int .i64 3, .int .i64 0, V.txt [], .nil, .nil]], .lst [.int .i64 1]]
def d30 : V.D := .agg [.lst [.agg [.int .i64 4, V.txt [97, 46, 65], .lst [.agg [.int .i64 1, .int .i64 1, V.txt [105, 56], V.txt [97], .bool false, .int .i64 0, .int .i64 0, V.txt [], .nil, .nil]]]], .nil, .nil]
def d31 : V.D := .agg [.lst [.agg [.int .i64 5, V.txt [97, 46, 65], .lst [.agg [.int .i64 1, .int .i64 0, V.txt [105, 56], V.txt [97], .bool false, .int .i64 0, .int .i64 0, V.txt [], .nil, .nil], .agg [.int .i64 2, .int .i64 0, V.txt [105, 56], V.txt [98], .bool false, .int .i64 0, .int .i64 0, V.txt [], .nil, .nil]]]], .nil, .nil]
def d32 : V.D := .agg [.lst [.agg [.int .i64 4, V.txt [97, 46, 65], .lst [.agg [.int .i64 1, .int .i64 1, V.txt [97, 46, 65], V.txt [97], .bool false, .int .i64 0, .int .i64 0, V.txt [], .nil, .nil]]]], .nil, .nil]
def d33 : V.D := .agg [.lst [.agg [.int .i64 5, V.txt [97, 46, 65], .lst [.agg [.int .i64 1, .int .i64 0, V.txt [97, 46, 65], V.txt [97], .bool false, .int .i64 0, .int .i64 0, V.txt [], .nil, .nil], .agg [.int .i64 2, .int .i64 0, V.txt [105, 56], V.txt [98], .bool false, .int .i64 0, .int .i64 0, V.txt [], .nil, .nil]]]], .nil, .nil]
def d34 : V.D := .agg [.int .i64 12, .int .i64 0, V.txt [], .lst [.agg [.int .i64 3, .int .i64 0, V.txt [], .nil, .nil]], .lst [.int .i64 2]]
def d35 : V.D := .agg [.lst [.agg [.int .i64 4, V.txt [97, 46, 65], .lst [.agg [.int .i64 1, .int .i64 1, V.txt [97, 46, 66], V.txt [97], .bool false, .int .i64 0, .int .i64 0, V.txt [], .nil, .nil]]], .agg [.int .i64 4, V.txt [97, 46, 66], .lst [.agg [.int .i64 1, .int .i64 1, V.txt [105, 56], V.txt [97], .bool false, .int .i64 0, .int .i64 0, V.txt [], .nil, .nil]]]], .nil, .nil]
def d36 : V.D := .agg [.int .i64 12, .int .i64 0, V.txt [], .lst [.agg [.int .i64 12, .int .i64 0, V.txt [], .lst [.agg [.int .i64 3, .int .i64 0, V.txt [], .nil, .nil]], .lst [.int .i64 1]]], .lst [.int .i64 1]]
def d37 : V.D := .agg [.lst [.agg [.int .i64 5, V.txt [97, 46, 65], .lst [.agg [.int .i64 1, .int .i64 0, V.txt [97, 46, 66], V.txt [97], .bool false, .int .i64 0, .int .i64 0, V.txt [], .nil, .nil], .agg [.int .i64 2, .int .i64 0, V.txt [105, 56], V.txt [98], .bool false, .int .i64 0, .int .i64 0, V.txt [], .nil, .nil]]], .agg [.int .i64 4, V.txt [97, 46, 66], .lst [.agg [.int .i64 1, .int .i64 1, V.txt [105, 56], V.txt [97], .bool false, .int .i64 0, .int .i64 0, V.txt [], .nil, .nil]]]], .nil, .nil]
def d38 : V.D := .agg [.lst [.agg [.int .i64 4, V.txt [97, 46, 65], .lst [.agg [.int .i64 1, .int .i64 1, V.txt [97, 46, 66], V.txt [97], .bool false, .int .i64 0, .int .i64 0, V.txt [], .nil, .nil]]], .agg [.int .i64 4, V.txt [97, 46, 66], .lst [.agg [.int .i64 1, .int .i64 1, V.txt [97, 46, 65], V.txt [97], .bool false, .int .i64 0, .int .i64 0, V.txt [], .nil, .nil]]]], .nil, .nil]
def d39 : V.D := .agg [.lst [.agg [.int .i64 5, V.txt [97, 46, 65], .lst [.agg [.int .i64 1, .int .i64 0, V.txt [97, 46, 66], V.txt [97], .bool false, .int .i64 0, .int .i64 0, V.txt [], .nil, .nil], .agg [.int .i64 2, .int .i64 0, V.txt [105, 56], V.txt [98], .bool false, .int .i64 0, .int .i64 0, V.txt [], .nil, .nil]]], .agg [.int .i64 4, V.txt [97, 46, 66], .lst [.agg [.int .i64 1, .int .i64 1, V.txt [97, 46, 65], V.txt [97], .bool false, .int .i64 0, .int .i64 0, V.txt [], .nil, .nil]]]], .nil, .nil]
def d40 : V.D := .agg [.int .i64 12, .int .i64 0, V.txt [], .lst [.agg [.int .i64 12, .int .i64 0, V.txt [], .lst [.agg [.int .i64 12, .int .i64 0, V.txt [], .lst [.agg [.int .i64 3, .int .i64 0, V.txt [], .nil, .nil]], .lst [.int .i64 1]]], .lst [.int .i64 1]]], .lst [.int .i64 1]]
def d41 : V.D := .agg [.lst [.agg [.int .i64 5, V.txt [97, 46, 65], .lst [.agg [.int .i64 1, .int .i64 0, V.txt [97, 46, 66], V.txt [97], .bool false, .int .i64 0, .int .i64 0, V.txt [], .nil, .nil], .agg [.int .i64 2, .int .i64 0, V.txt [105, 56], V.txt [98], .bool false, .int .i64 0, .int .i64 0, V.txt [], .nil, .nil]]], .agg [.int .i64 4, V.txt [97, 46, 66], .lst [.agg [.int .i64 1, .int .i64 1, V.txt [97, 46, 67], V.txt [97], .bool false, .int .i64 0, .int .i64 0, V.txt [], .nil, .nil]]], .agg [.int .i64 4, V.txt [97, 46, 67], .lst [.agg [.int .i64 1, .int .i64 1, V.txt [105, 56], V.txt [97], .bool false, .int .i64 0, .int .i64 0, V.txt [], .nil, .nil]]]], .nil, .nil]
def d42 : V.D := .agg [.lst [.agg [.int .i64 4, V.txt [97, 46, 65], .lst [.agg [.int .i64 1, .int .i64 1, V.txt [97, 46, 66], V.txt [97], .bool false, .int .i64 0, .int .i64 0, V.txt [], .nil, .nil]]], .agg [.int .i64 4, V.txt [97, 46, 66], .lst [.agg [.int .i64 1, .int .i64 1, V.txt [97, 46, 67], V.txt [97], .bool false, .int .i64 0, .int .i64 0, V.txt [], .nil, .nil]]], .agg [.int .i64 4, V.txt [97, 46, 67], .lst [.agg [.int .i64 1, .int .i64 1, V.txt [97, 46, 65], V.txt [97], .bool false, .int .i64 0, .int .i64 0, V.txt [], .nil, .nil]]]], .nil, .nil]
def d43 : V.D := .agg [.lst [.agg [.int .i64 5, V.txt [97, 46, 65], .lst [.agg [.int .i64 1, .int .i64 0, V.txt [97, 46, 66], V.txt [97], .bool false, .int .i64 0, .int .i64 0, V.txt [], .nil, .nil], .agg [.int .i64 2, .int .i64 0, V.txt [105, 56], V.txt [98], .bool false, .int .i64 0, .int .i64 0, V.txt [], .nil, .nil]]], .agg [.int .i64 4, V.txt [97, 46, 66], .lst [.agg [.int .i64 1, .int .i64 1, V.txt [97, 46, 67], V.txt [97], .bool false, .int .i64 0, .int .i64 0, V.txt [], .nil, .nil]]], .agg [.int .i64 4, V.txt [97, 46, 67], .lst [.agg [.int .i64 1, .int .i64 1, V.txt [97, 46, 65], V.txt [97], .bool false, .int .i64 0, .int .i64 0, V.txt [], .nil, .nil]]]], .nil, .nil]
def d44 : V.D := .agg [.int .i64 12, .int .i64 0, V.txt [], .lst [.agg [.int .i64 12, .int .i64 0, V.txt [], .lst [.agg [.int .i64 12, .int .i64 0, V.txt [], .lst [.agg [.int .i64 12, .int .i64 0, V.txt [], .lst [.agg [.int .i64 3, .int .i64 0, V.txt [], .nil, .nil]], .lst [.int .i64 1]]], .lst [.int .i64 1]]], .lst [.int .i64 1]]], .lst [.int .i64 1]]
def d45 : V.D := .agg [.lst [.agg [.int .i64 5, V.txt [97, 46, 65], .lst [.agg [.int .i64 1, .int .i64 0, V.txt [97, 46, 66], V.txt [97], .bool false, .int .i64 0, .int .i64 0, V.txt [], .nil, .nil], .agg [.int .i64 2, .int .i64 0, V.txt [105, 56], V.txt [98], .bool false, .int .i64 0, .int .i64 0, V.txt [], .nil, .nil]]], .agg [.int .i64 4, V.txt [97, 46, 66], .lst [.agg [.int .i64 1, .int .i64 1, V.txt [97, 46, 67], V.txt [97], .bool false, .int .i64 0, .int .i64 0, V.txt [], .nil, .nil]]], .agg [.int .i64 4, V.txt [97, 46, 67], .lst [.agg [.int .i64 1, .int .i64 1, V.txt [97, 46, 68], V.txt [97], .bool false, .int .i64 0, .int .i64 0, V.txt [], .nil, .nil]]], .agg [.int .i64 4, V.txt [97, 46, 68], .lst [.agg [.int .i64 1, .int .i64 1, V.txt [105, 56], V.txt [97], .bool false, .int .i64 0, .int .i64 0, V.txt [], .nil, .nil]]]], .nil, .nil]
def d46 : V.D := .agg [.lst [.agg [.int .i64 4, V.txt [97, 46, 65], .lst [.agg [.int .i64 1, .int .i64 1, V.txt [97, 46, 66], V.txt [97], .bool false, .int .i64 0, .int .i64 0, V.txt [], .nil, .nil]]], .agg [.int .i64 4, V.txt [97, 46, 66], .lst [.agg [.int .i64 1, .int .i64 1, V.txt [97, 46, 67], V.txt [97], .bool false, .int .i64 0, .int .i64 0, V.txt [], .nil, .nil]]], .agg [.int .i64 4, V.txt [97, 46, 67], .lst [.agg [.int .i64 1, .int .i64 1, V.txt [97, 46, 68], V.txt [97], .bool false, .int .i64 0, .int .i64 0, V.txt [], .nil, .nil]]], .agg [.int .i64 4, V.txt [97, 46, 68], .lst [.agg [.int .i64 1, .int .i64 1, V.txt [97, 46, 65], V.txt [97], .bool false, .int .i64 0, .int .i64 0, V.txt [], .nil, .nil]]]], .nil, .nil]
def d47 : V.D := .agg [.lst [.agg [.int .i64 5, V.txt [97, 46, 65], .lst [.agg [.int .i64 1, .int .i64 0, V.txt [97, 46, 66], V.txt [97], .bool false, .int .i64 0, .int .i64 0, V.txt [], .nil, .nil], .agg [.int .i64 2, .int .i64 0, V.txt [105, 56], V.txt [98], .bool false, .int .i64 0, .int .i64 0, V.txt [], .nil, .nil]]], .agg [.int .i64 4, V.txt [97, 46, 66], .lst [.agg [.int .i64 1, .int .i64 1, V.txt [97, 46, 67], V.txt [97], .bool false, .int .i64 0, .int .i64 0, V.txt [], .nil, .nil]]], .agg [.int .i64 4, V.txt [97, 46, 67], .lst [.agg [.int .i64 1, .int .i64 1, V.txt [97, 46, 68], V.txt [97], .bool false, .int .i64 0, .int .i64 0, V.txt [], .nil, .nil]]], .agg [.int .i64 4, V.txt [97, 46, 68], .lst [.agg [.int .i64 1, .int .i64 1, V.txt [97, 46, 65], V.txt [97], .bool false, .int .i64 0, .int .i64 0, V.txt [], .nil, .nil]]]], .nil, .nil]
def d48 : V.D := .agg [.int .i64 12, .int .i64 0, V.txt [], .lst [.agg [.int .i64 12, .int .i64 0, V.txt [], .lst [.agg [.int .i64 12, .int .i64 0, V.txt [], .lst [.agg [.int .i64 12, .int .i64 0, V.txt [], .lst [.agg [.int .i64 12, .int .i64 0, V.txt [], .lst [.agg [.int .i64 3, .int .i64 0, V.txt [], .nil, .nil]], .lst [.int .i64 1]]], .lst [.int .i64 1]]], .lst [.int .i64 1]]], .lst [.int .i64 1]]], .lst [.int .i64 1]]
def d49 : V.D := .agg [.lst [.agg [.int .i64 5, V.txt [97, 46, 65], .lst [.agg [.int .i64 1, .int .i64 0, V.txt [97, 46, 66], V.txt [97], .bool false, .int .i64 0, .int .i64 0, V.txt [], .nil, .nil], .agg [.int .i64 2, .int .i64 0, V.txt [105, 56], V.txt [98], .bool false, .int .i64 0, .int .i64 0, V.txt [], .nil, .nil]]], .agg [.int .i64 4, V.txt [97, 46, 66], .lst [.agg [.int .i64 1, .int .i64 1, V.txt [97, 46, 67], V.txt [97], .bool false, .int .i64 0, .int .i64 0, V.txt [], .nil, .nil]]], .agg [.int .i64 4, V.txt [97, 46, 67], .lst [.agg [.int .i64 1, .int .i64 1, V.txt [97, 46, 68], V.txt [97], .bool false, .int .i64 0, .int .i64 0, V.txt [], .nil, .nil]]], .agg [.int .i64 4, V.txt [97, 46, 68], .lst [.agg [.int .i64 1, .int .i64 1, V.txt [97, 46, 69], V.txt [97], .bool false, .int .i64 0, .int .i64 0, V.txt [], .nil, .nil]]], .agg [.int .i64 4, V.txt [97, 46, 69], .lst [.agg [.int .i64 1, .int .i64 1, V.txt [105, 56], V.txt [97], .bool false, .int .i64 0, .int .i64 0, V.txt [], .nil, .nil]]]], .nil, .nil]
def d50 : V.D := .agg [.lst [.agg [.int .i64 4, V.txt [97, 46, 65], .lst [.agg [.int .i64 1, .int .i64 1, V.txt [97, 46, 66], V.txt [97], .bool false, .int .i64 0, .int .i64 0, V.txt [], .nil, .nil]]], .agg [.int .i64 4, V.txt [97, 46, 66], .lst [.agg [.int .i64 1, .int .i64 1, V.txt [97, 46, 67], V.txt [97], .bool false, .int .i64 0, .int .i64 0, V.txt [], .nil, .nil]]], .agg [.int .i64 4, V.txt [97, 46, 67], .lst [.agg [.int .i64 1, .int .i64 1, V.txt [97, 46, 68], V.txt [97], .bool false, .int .i64 0, .int .i64 0, V.txt [], .nil, .nil]]], .agg [.int .i64 4, V.txt [97, 46, 68], .lst [.agg [.int .i64 1, .int .i64 1, V.txt [97, 46, 69], V.txt [97], .bool false, .int .i64 0, .int .i64 0, V.txt [], .nil, .nil]]], .agg [.int .i64 4, V.txt [97, 46, 69], .lst [.agg [.int .i64 1, .int .i64 1, V.txt [97, 46, 65], V.txt [97], .bool false, .int .i64 0, .int .i64 0, V.txt [], .nil, .nil]]]], .nil, .nil]
def d51 : V.D := .agg [.lst [.agg [.int .i64 5, V.txt [97, 46, 65], .lst [.agg [.int .i64 1, .int .i64 0, V.txt [97, 46, 66], V.txt [97], .bool false, .int .i64 0, .int .i64 0, V.txt [], .nil, .nil], .agg [.int .i64 2, .int .i64 0, V.txt [105, 56], V.txt [98], .bool false, .int .i64 0, .int .i64 0, V.txt [], .nil, .nil]]], .agg [.int .i64 4, V.txt [97, 46, 66], .lst [.agg [.int .i64 1, .int .i64 1, V.txt [97, 46, 67], V.txt [97], .bool false, .int .i64 0, .int .i64 0, V.txt [], .nil, .nil]]], .agg [.int .i64 4, V.txt [97, 46, 67], .lst [.agg [.int .i64 1, .int .i64 1, V.txt [97, 46, 68], V.txt [97], .bool false, .int .i64 0, .int .i64 0, V.txt [], .nil, .nil]]], .agg [.int .i64 4, V.txt [97, 46, 68], .lst [.agg [.int .i64 1, .int .i64 1, V.txt [97, 46, 69], V.txt [97], .bool false, .int .i64 0, .int .i64 0, V.txt [], .nil, .nil]]], .agg [.int .i64 4, V.txt [97, 46, 69], .lst [.agg [.int .i64 1, .int .i64 1, V.txt [97, 46, 65], V.txt [97], .bool false, .int .i64 0, .int .i64 0, V.txt [], .nil, .nil]]]], .nil, .nil]
def d52 : V.D := .agg [.int .i64 12, .int .i64 0, V.txt [], .lst [.agg [.int .i64 12, .int .i64 0, V.txt [], .lst [.agg [.int .i64 12, .int .i64 0, V.txt [], .lst [.agg [.int .i64 12, .int .i64 0, V.txt [], .lst [.agg [.int .i64 12, .int .i64 0, V.txt [], .lst [.agg [.int .i64 12, .int .i64 0, V.txt [], .lst [.agg [.int .i64 3, .int .i64 0, V.txt [], .nil, .nil]], .lst [.int .i64 1]]], .lst [.int .i64 1]]], .lst [.int .i64 1]]], .lst [.int .i64 1]]], .lst [.int .i64 1]]], .lst [.int .i64 1]]
def d53 : V.D := .agg [.lst [.agg [.int .i64 5, V.txt [97, 46, 65], .lst [.agg [.int .i64 1, .int .i64 0, V.txt [97, 46, 66], V.txt [97], .bool false, .int .i64 0, .int .i64 0, V.txt [], .nil, .nil], .agg [.int .i64 2, .int .i64 0, V.txt [105, 56], V.txt [98], .bool false, .int .i64 0, .int .i64 0, V.txt [], .nil, .nil]]], .agg [.int .i64 4, V.txt [97, 46, 66], .lst [.agg [.int .i64 1, .int .i64 1, V.txt [97, 46, 67], V.txt [97], .bool false, .int .i64 0, .int .i64 0, V.txt [], .nil, .nil]]], .agg [.int .i64 4, V.txt [97, 46, 67], .lst [.agg [.int .i64 1, .int .i64 1, V.txt [97, 46, 68], V.txt [97], .bool false, .int .i64 0, .int .i64 0, V.txt [], .nil, .nil]]], .agg [.int .i64 4, V.txt [97, 46, 68], .lst [.agg [.int .i64 1, .int .i64 1, V.txt [97, 46, 69], V.txt [97], .bool false, .int .i64 0, .int .i64 0, V.txt [], .nil, .nil]]], .agg [.int .i64 4, V.txt [97, 46, 69], .lst [.agg [.int .i64 1, .int .i64 1, V.txt [97, 46, 70], V.txt [97], .bool false, .int .i64 0, .int .i64 0, V.txt [], .nil, .nil]]], .agg [.int .i64 4, V.txt [97, 46, 70], .lst [.agg [.int .i64 1, .int .i64 1, V.txt [105, 56], V.txt [97], .bool false, .int .i64 0, .int .i64 0, V.txt [], .nil, .nil]]]], .nil, .nil]
def d54 : V.D := .agg [.lst [.agg [.int .i64 4, V.txt [97, 46, 65], .lst [.agg [.int .i64 1, .int .i64 1, V.txt [97, 46, 66], V.txt [97], .bool false, .int .i64 0, .int .i64 0, V.txt [], .nil, .nil]]], .agg [.int .i64 4, V.txt [97, 46, 66], .lst [.agg [.int .i64 1, .int .i64 1, V.txt [97, 46, 67], V.txt [97], .bool false, .int .i64 0, .int .i64 0, V.txt [], .nil, .nil]]], .agg [.int .i64 4, V.txt [97, 46, 67], .lst [.agg [.int .i64 1, .int .i64 1, V.txt [97, 46, 68], V.txt [97], .bool false, .int .i64 0, .int .i64 0, V.txt [], .nil, .nil]]], .agg [.int .i64 4, V.txt [97, 46, 68], .lst [.agg [.int .i64 1, .int .i64 1, V.txt [97, 46, 69], V.txt [97], .bool false, .int .i64 0, .int .i64 0, V.txt [], .nil, .nil]]], .agg [.int .i64 4, V.txt [97, 46, 69], .lst [.agg [.int .i64 1, .int .i64 1, V.txt [97, 46, 70], V.txt [97], .bool false, .int .i64 0, .int .i64 0, V.txt [], .nil, .nil]]], .agg [.int .i64 4, V.txt [97, 46, 70], .lst [.agg [.int .i64 1, .int .i64 1, V.txt [97, 46, 65], V.txt [97], .bool false, .int .i64 0, .int .i64 0, V.txt [], .nil, .nil]]]], .nil, .nil]
def d55 : V.D := .agg [.lst [.agg [.int .i64 5, V.txt [97, 46, 65], .lst [.agg [.int .i64 1, .int .i64 0, V.txt [97, 46, 66], V.txt [97], .bool false, .int .i64 0, .int .i64 0, V.txt [], .nil, .nil], .agg [.int .i64 2, .int .i64 0, V.txt [105, 56], V.txt [98], .bool false, .int .i64 0, .int .i64 0, V.txt [], .nil, .nil]]], .agg [.int .i64 4, V.txt [97, 46, 66], .lst [.agg [.int .i64 1, .int .i64 1, V.txt [97, 46, 67], V.txt [97], .bool false, .int .i64 0, .int .i64 0, V.txt [], .nil, .nil]]], .agg [.int .i64 4, V.txt [97, 46, 67], .lst [.agg [.int .i64 1, .int .i64 1, V.txt [97, 46, 68], V.txt [97], .bool false, .int .i64 0, .int .i64 0, V.txt [], .nil, .nil]]], .agg [.int .i64 4, V.txt [97, 46, 68], .lst [.agg [.int .i64 1, .int .i64 1, V.txt [97, 46, 69], V.txt [97], .bool false, .int .i64 0, .int .i64 0, V.txt [], .nil, .nil]]], .agg [.int .i64 4, V.txt [97, 46, 69], .lst [.agg [.int .i64 1, .int .i64 1, V.txt [97, 46, 70], V.txt [97], .bool false, .int .i64 0, .int .i64 0, V.txt [], .nil, .nil]]], .agg [.int .i64 4, V.txt [97, 46, 70], .lst [.agg [.int .i64 1, .int .i64 1, V.txt [97, 46, 65], V.txt [97], .bool false, .int .i64 0, .int .i64 0, V.txt [], .nil, .nil]]]], .nil, .nil]
def d56 : V.D := .agg [.int .i64 12, .int .i64 0, V.txt [], .lst [.agg [.int .i64 12, .int .i64 0, V.txt [], .lst [.agg [.int .i64 12, .int .i64 0, V.txt [], .lst [.agg [.int .i64 12, .int .i64 0, V.txt [], .lst [.agg [.int .i64 12, .int .i64 0, V.txt [], .lst [.agg [.int .i64 12, .int .i64 0, V.txt [], .lst [.agg [.int .i64 12, .int .i64 0, V.txt [], .lst [.agg [.int .i64 3, .int .i64 0, V.txt [], .nil, .nil]], .lst [.int .i64 1]]], .lst [.int .i64 1]]], .lst [.int .i64 1]]], .lst [.int .i64 1]]], .lst [.int .i64 1]]], .lst [.int .i64 1]]], .lst [.int .i64 1]]
def d57 : V.D := .agg [.lst [.agg [.int .i64 5, V.txt [97, 46, 65], .lst [.agg [.int .i64 1, .int .i64 0, V.txt [97, 46, 66], V.txt [97], .bool false, .int .i64 0, .int .i64 0, V.txt [], .nil, .nil], .agg [.int .i64 2, .int .i64 0, V.txt [105, 56], V.txt [98], .bool false, .int .i64 0, .int .i64 0, V.txt [], .nil, .nil]]], .agg [.int .i64 4, V.txt [97, 46, 66], .lst [.agg [.int .i64 1, .int .i64 1, V.txt [97, 46, 67], V.txt [97], .bool false, .int .i64 0, .int .i64 0, V.txt [], .nil, .nil]]], .agg [.int .i64 4, V.txt [97, 46, 67], .lst [.agg [.int .i64 1, .int .i64 1, V.txt [97, 46, 68], V.txt [97], .bool false, .int .i64 0, .int .i64 0, V.txt [], .nil, .nil]]], .agg [.int .i64 4, V.txt [97, 46, 68], .lst [.agg [.int .i64 1, .int .i64 1, V.txt [97, 46, 69], V.txt [97], .bool false, .int .i64 0, .int .i64 0, V.txt [], .nil, .nil]]], .agg [.int .i64 4, V.txt [97, 46, 69], .lst [.agg [.int .i64 1, .int .i64 1, V.txt [97, 46, 70], V.txt [97], .bool false, .int .i64 0, .int .i64 0, V.txt [], .nil, .nil]]], .agg [.int .i64 4, V.txt [97, 46, 70], .lst [.agg [.int .i64 1, .int .i64 1, V.txt [97, 46, 71], V.txt [97], .bool false, .int .i64 0, .int .i64 0, V.txt [], .nil, .nil]]], .agg [.int .i64 4, V.txt [97, 46, 71], .lst [.agg [.int .i64 1, .int .i64 1, V.txt [105, 56], V.txt [97], .bool false, .int .i64 0, .int .i64 0, V.txt [], .nil, .nil]]]], .nil, .nil]
def d58 : V.D := .agg [.lst [.agg [.int .i64 4, V.txt [97, 46, 65], .lst [.agg [.int .i64 1, .int .i64 1, V.txt [97, 46, 66], V.txt [97], .bool false, .int .i64 0, .int .i64 0, V.txt [], .nil, .nil]]], .agg [.int .i64 4, V.txt [97, 46, 66], .lst [.agg [.int .i64 1, .int .i64 1, V.txt [97, 46, 67], V.txt [97], .bool false, .int .i64 0, .int .i64 0, V.txt [], .nil, .nil]]], .agg [.int .i64 4, V.txt [97, 46, 67], .lst [.agg [.int .i64 1, .int .i64 1, V.txt [97, 46, 68], V.txt [97], .bool false, .int .i64 0, .int .i64 0, V.txt [], .nil, .nil]]], .agg [.int .i64 4, V.txt [97, 46, 68], .lst [.agg [.int .i64 1, .int .i64 1, V.txt [97, 46, 69], V.txt [97], .bool false, .int .i64 0, .int .i64 0, V.txt [], .nil, .nil]]], .agg [.int .i64 4, V.txt [97, 46, 69], .lst [.agg [.int .i64 1, .int .i64 1, V.txt [97, 46, 70], V.txt [97], .bool false, .int .i64 0, .int .i64 0, V.txt [], .nil, .nil]]], .agg [.int .i64 4, V.txt [97, 46, 70], .lst [.agg [.int .i64 1, .int .i64 1, V.txt [97, 46, 71], V.txt [97], .bool false, .int .i64 0, .int .i64 0, V.txt [], .nil, .nil]]], .agg [.int .i64 4, V.txt [97, 46, 71], .lst [.agg [.int .i64 1, .int .i64 1, V.txt [97, 46, 65], V.txt [97], .bool false, .int .i64 0, .int .i64 0, V.txt [], .nil, .nil]]]], .nil, .nil]
def d59 : V.D := .agg [.lst [.agg [.int .i64 5, V.txt [97, 46, 65], .lst [.agg [.int .i64 1, .int .i64 0, V.txt [97, 46, 66], V.txt [97], .bool false, .int .i64 0, .int .i64 0, V.txt [], .nil, .nil], .agg [.int .i64 2, .int .i64 0, V.txt [105, 56], V.txt [98], .bool false, .int .i64 0, .int .i64 0, V.txt [], .nil, .nil]]], .agg [.int .i64 4, V.txt [97, 46, 66], .lst [.agg [.int .i64 1, .int .i64 1, V.txt [97, 46, 67], V.txt [97], .bool false, .int .i64 0, .int .i64 0, V.txt [], .nil, .nil]]], .agg [.int .i64 4, V.txt [97, 46, 67], .lst [.agg [.int .i64 1, .int .i64 1, V.txt [97, 46, 68], V.txt [97], .bool false, .int .i64 0, .int .i64 0, V.txt [], .nil, .nil]]], .agg [.int .i64 4, V.txt [97, 46, 68], .lst [.agg [.int .i64 1, .int .i64 1, V.txt [97, 46, 69], V.txt [97], .bool false, .int .i64 0, .int .i64 0, V.txt [], .nil, .nil]]], .agg [.int .i64 4, V.txt [97, 46, 69], .lst [.agg [.int .i64 1, .int .i64 1, V.txt [97, 46, 70], V.txt [97], .bool false, .int .i64 0, .int .i64 0, V.txt [], .nil, .nil]]], .agg [.int .i64 4, V.txt [97, 46, 70], .lst [.agg [.int .i64 1, .int .i64 1, V.txt [97, 46, 71], V.txt [97], .bool false, .int .i64 0, .int .i64 0, V.txt [], .nil, .nil]]], .agg [.int .i64 4, V.txt [97, 46, 71], .lst [.agg [.int .i64 1, .int .i64 1, V.txt [97, 46, 65], V.txt [97], .bool false, .int .i64 0, .int .i64 0, V.txt [], .nil, .nil]]]], .nil, .nil]
def d60 : V.D := .agg [.int .i64 12, .int .i64 0, V.txt [], .lst [.agg [.int .i64 12, .int .i64 0, V.txt [], .lst [.agg [.int .i64 12, .int .i64 0, V.txt [], .lst [.agg [.int .i64 12, .int .i64 0, V.txt [], .lst [.agg [.int .i64 12, .int .i64 0, V.txt [], .lst [.agg [.int .i64 12, .int .i64 0, V.txt [], .lst [.agg [.int .i64 12, .int .i64 0, V.txt [], .lst [.agg [.int .i64 12, .int .i64 0, V.txt [], .lst [.agg [.int .i64 3, .int .i64 0, V.txt [], .nil, .nil]], .lst [.int .i64 1]]], .lst [.int .i64 1]]], .lst [.int .i64 1]]], .lst [.int .i64 1]]], .lst [.int .i64 1]]], .lst [.int .i64 1]]], .lst [.int .i64 1]]], .lst [.int .i64 1]]
def d61 : V.D := .agg [.lst [.agg [.int .i64 5, V.txt [97, 46, 65], .lst [.agg [.int .i64 1, .int .i64 0, V.txt [97, 46, 66], V.txt [97], .bool false, .int .i64 0, .int .i64 0, V.txt [], .nil, .nil], .agg [.int .i64 2, .int .i64 0, V.txt [105, 56], V.txt [98], .bool false, .int .i64 0, .int .i64 0, V.txt [], .nil, .nil]]], .agg [.int .i64 4, V.txt [97, 46, 66], .lst [.agg [.int .i64 1, .int .i64 1, V.txt [97, 46, 67], V.txt [97], .bool false, .int .i64 0, .int .i64 0, V.txt [], .nil, .nil]]], .agg [.int .i64 4, V.txt [97, 46, 67], .lst [.agg [.int .i64 1, .int .i64 1, V.txt [97, 46, 68], V.txt [97], .bool false, .int .i64 0, .int .i64 0, V.txt [], .nil, .nil]]], .agg [.int .i64 4, V.txt [97, 46, 68], .lst [.agg [.int .i64 1, .int .i64 1, V.txt [97, 46, 69], V.txt [97], .bool false, .int .i64 0, .int .i64 0, V.txt [], .nil, .nil]]], .agg [.int .i64 4, V.txt [97, 46, 69], .lst [.agg [.int .i64 1, .int .i64 1, V.txt [97, 46, 70], V.txt [97], .bool false, .int .i64 0, .int .i64 0, V.txt [], .nil, .nil]]], .agg [.int .i64 4, V.txt [97, 46, 70], .lst [.agg [.int .i64 1, .int .i64 1, V.txt [97, 46, 71], V.txt [97], .bool false, .int .i64 0, .int .i64 0, V.txt [], .nil, .nil]]], .agg [.int .i64 4, V.txt [97, 46, 71], .lst [.agg [.int .i64 1, .int .i64 1, V.txt [97, 46, 72], V.txt [97], .bool false, .int .i64 0, .int .i64 0, V.txt [], .nil, .nil]]], .agg [.int .i64 4, V.txt [97, 46, 72], .lst [.agg [.int .i64 1, .int .i64 1, V.txt [105, 56], V.txt [97], .bool false, .int .i64 0, .int .i64 0, V.txt [], .nil, .nil]]]], .nil, .nil]
def d62 : V.D := .agg [.lst [.agg [.int .i64 4, V.txt [97, 46, 65], .lst [.agg [.int .i64 1, .int .i64 1, V.txt [97, 46, 66], V.txt [97], .bool false, .int .i64 0, .int .i64 0, V.txt [], .nil, .nil]]], .agg [.int .i64 4, V.txt [97, 46, 66], .lst [.agg [.int .i64 1, .int .i64 1, V.txt [97, 46, 67], V.txt [97], .bool false, .int .i64 0, .int .i64 0, V.txt [], .nil, .nil]]], .agg [.int .i64 4, V.txt [97, 46, 67], .lst [.agg [.int .i64 1, .int .i64 1, V.txt [97, 46, 68], V.txt [97], .bool false, .int .i64 0, .int .i64 0, V.txt [], .nil, .nil]]], .agg [.int .i64 4, V.txt [97, 46, 68], .lst [.agg [.int .i64 1, .int .i64 1, V.txt [97, 46, 69], V.txt [97], .bool false, .int .i64 0, .int .i64 0, V.txt [], .nil, .nil]]], .agg [.int .i64 4, V.txt [97, 46, 69], .lst [.agg [.int .i64 1, .int .i64 1, V.txt [97, 46, 70], V.txt [97], .bool false, .int .i64 0, .int .i64 0, V.txt [], .nil, .nil]]], .agg [.int .i64 4, V.txt [97, 46, 70], .lst [.agg [.int .i64 1, .int .i64 1, V.txt [97, 46, 71], V.txt [97], .bool false, .int .i64 0, .int .i64 0, V.txt [], .nil, .nil]]], .agg [.int .i64 4, V.txt [97, 46, 71], .lst [.agg [.int .i64 1, .int .i64 1, V.txt [97, 46, 72], V.txt [97], .bool false, .int .i64 0, .int .i64 0, V.txt [], .nil, .nil]]], .agg [.int .i64 4, V.txt [97, 46, 72], .lst [.agg [.int .i64 1, .int .i64 1, V.txt [97, 46, 65], V.txt [97], .bool false, .int .i64 0, .int .i64 0, V.txt [], .nil, .nil]]]], .nil, .nil]
def d63 : V.D := .agg [.lst [.agg [.int .i64 5, V.txt [97, 46, 65], .lst [.agg [.int .i64 1, .int .i64 0, V.txt [97, 46, 66], V.txt [97], .bool false, .int .i64 0, .int .i64 0, V.txt [], .nil, .nil], .agg [.int .i64 2, .int .i64 0, V.txt [105, 56], V.txt [98], .bool false, .int .i64 0, .int .i64 0, V.txt [], .nil, .nil]]], .agg [.int .i64 4, V.txt [97, 46, 66], .lst [.agg [.int .i64 1, .int .i64 1, V.txt [97, 46, 67], V.txt [97], .bool false, .int .i64 0, .int .i64 0, V.txt [], .nil, .nil]]], .agg [.int .i64 4, V.txt [97, 46, 67], .lst [.agg [.int .i64 1, .int .i64 1, V.txt [97, 46, 68], V.txt [97], .bool false, .int .i64 0, .int .i64 0, V.txt [], .nil, .nil]]], .agg [.int .i64 4, V.txt [97, 46, 68], .lst [.agg [.int .i64 1, .int .i64 1, V.txt [97, 46, 69], V.txt [97], .bool false, .int .i64 0, .int .i64 0, V.txt [], .nil, .nil]]], .agg [.int .i64 4, V.txt [97, 46, 69], .lst [.agg [.int .i64 1, .int .i64 1, V.txt [97, 46, 70], V.txt [97], .bool false, .int .i64 0, .int .i64 0, V.txt [], .nil, .nil]]], .agg [.int .i64 4, V.txt [97, 46, 70], .lst [.agg [.int .i64 1, .int .i64 1, V.txt [97, 46, 71], V.txt [97], .bool false, .int .i64 0, .int .i64 0, V.txt [], .nil, .nil]]], .agg [.int .i64 4, V.txt [97, 46, 71], .lst [.agg [.int .i64 1, .int .i64 1, V.txt [97, 46, 72], V.txt [97], .bool false, .int .i64 0, .int .i64 0, V.txt [], .nil, .nil]]], .agg [.int .i64 4, V.txt [97, 46, 72], .lst [.agg [.int .i64 1, .int .i64 1, V.txt [97, 46, 65], V.txt [97], .bool false, .int .i64 0, .int .i64 0, V.txt [], .nil, .nil]]]], .nil, .nil]
def d64 : V.D := .agg [.int .i64 12, .int .i64 0, V.txt [], .lst [.agg [.int .i64 12, .int .i64 0, V.txt [], .lst [.agg [.int .i64 12, .int .i64 0, V.txt [], .lst [.agg [.int .i64 12, .int .i64 0, V.txt [], .lst [.agg [.int .i64 12, .int .i64 0, V.txt [], .lst [.agg [.int .i64 12, .int .i64 0, V.txt [], .lst [.agg [.int .i64 12, .int .i64 0, V.txt [], .lst [.agg [.int .i64 12, .int .i64 0, V.txt [], .lst [.agg [.int .i64 12, .int .i64 0, V.txt [], .lst [.agg [.int .i64 3, .int .i64 0, V.txt [], .nil, .nil]], .lst [.int .i64 1]]], .lst [.int .i64 1]]], .lst [.int .i64 1]]], .lst [.int .i64 1]]], .lst [.int .i64 1]]], .lst [.int .i64 1]]], .lst [.int .i64 1]]], .lst [.int .i64 1]]], .lst [.int .i64 1]]
def d65 : V.D := .agg [.lst [.agg [.int .i64 5, V.txt [97, 46, 65], .lst [.agg [.int .i64 1, .int .i64 0, V.txt [97, 46, 66], V.txt [97], .bool false, .int .i64 0, .int .i64 0, V.txt [], .nil, .nil], .agg [.int .i64 2, .int .i64 0, V.txt [105, 56], V.txt [98], .bool false, .int .i64 0, .int .i64 0, V.txt [], .nil, .nil]]], .agg [.int .i64 4, V.txt [97, 46, 66], .lst [.agg [.int .i64 1, .int .i64 1, V.txt [97, 46, 67], V.txt [97], .bool false, .int .i64 0, .int .i64 0, V.txt [], .nil, .nil]]], .agg [.int .i64 4, V.txt [97, 46, 67], .lst [.agg [.int .i64 1, .int .i64 1, V.txt [97, 46, 68], V.txt [97], .bool false, .int .i64 0, .int .i64 0, V.txt [], .nil, .nil]]], .agg [.int .i64 4, V.txt [97, 46, 68], .lst [.agg [.int .i64 1, .int .i64 1, V.txt [97, 46, 69], V.txt [97], .bool false, .int .i64 0, .int .i64 0, V.txt [], .nil, .nil]]], .agg [.int .i64 4, V.txt [97, 46, 69], .lst [.agg [.int .i64 1, .int .i64 1, V.txt [97, 46, 70], V.txt [97], .bool false, .int .i64 0, .int .i64 0, V.txt [], .nil, .nil]]], .agg [.int .i64 4, V.txt [97, 46, 70], .lst [.agg [.int .i64 1, .int .i64 1, V.txt [97, 46, 71], V.txt [97], .bool false, .int .i64 0, .int .i64 0, V.txt [], .nil, .nil]]], .agg [.int .i64 4, V.txt [97, 46, 71], .lst [.agg [.int .i64 1, .int .i64 1, V.txt [97, 46, 72], V.txt [97], .bool false, .int .i64 0, .int .i64 0, V.txt [], .nil, .nil]]], .agg [.int .i64 4, V.txt [97, 46, 72], .lst [.agg [.int .i64 1, .int .i64 1, V.txt [97, 46, 73], V.txt [97], .bool false, .int .i64 0, .int .i64 0, V.txt [], .nil, .nil]]], .agg [.int .i64 4, V.txt [97, 46, 73], .lst [.agg [.int .i64 1, .int .i64 1, V.txt [105, 56], V.txt [97], .bool false, .int .i64 0, .int .i64 0, V.txt [], .nil, .nil]]]], .nil, .nil]
def d66 : V.D := .agg [.lst [.agg [.int .i64 4, V.txt [97, 46, 65], .lst [.agg [.int .i64 1, .int .i64 1, V.txt [97, 46, 66], V.txt [97], .bool false, .int .i64 0, .int .i64 0, V.txt [], .nil, .nil]]], .agg [.int .i64 4, V.txt [97, 46, 66], .lst [.agg [.int .i64 1, .int .i64 1, V.txt [97, 46, 67], V.txt [97], .bool false, .int .i64 0, .int .i64 0, V.txt [], .nil, .nil]]], .agg [.int .i64 4, V.txt [97, 46, 67], .lst [.agg [.int .i64 1, .int .i64 1, V.txt [97, 46, 68], V.txt [97], .bool false, .int .i64 0, .int .i64 0, V.txt [], .nil, .nil]]], .agg [.int .i64 4, V.txt [97, 46, 68], .lst [.agg [.int .i64 1, .int .i64 1, V.txt [97, 46, 69], V.txt [97], .bool false, .int .i64 0, .int .i64 0, V.txt [], .nil, .nil]]], .agg [.int .i64 4, V.txt [97, 46, 69], .lst [.agg [.int .i64 1, .int .i64 1, V.txt [97, 46, 70], V.txt [97], .bool false, .int .i64 0, .int .i64 0, V.txt [], .nil, .nil]]], .agg [.int .i64 4, V.txt [97, 46, 70], .lst [.agg [.int .i64 1, .int .i64 1, V.txt [97, 46, 71], V.txt [97], .bool false, .int .i64 0, .int .i64 0, V.txt [], .nil, .nil]]], .agg [.int .i64 4, V.txt [97, 46, 71], .lst [.agg [.int .i64 1, .int .i64 1, V.txt [97, 46, 72], V.txt [97], .bool false, .int .i64 0, .int .i64 0, V.txt [], .nil, .nil]]], .agg [.int .i64 4, V.txt [97, 46, 72], .lst [.agg [.int .i64 1, .int .i64 1, V.txt [97, 46, 73], V.txt [97], .bool false, .int .i64 0, .int .i64 0, V.txt [], .nil, .nil]]], .agg [.int .i64 4, V.txt [97, 46, 73], .lst [.agg [.int .i64 1, .int .i64 1, V.txt [97, 46, 65], V.txt [97], .bool false, .int .i64 0, .int .i64 0, V.txt [], .nil, .nil]]]], .nil, .nil]
def d67 : V.D := .agg [.lst [.agg [.int .i64 5, V.txt [97, 46, 65], .lst [.agg [.int .i64 1, .int .i64 0, V.txt [97, 46, 66], V.txt [97], .bool false, .int .i64 0, .int .i64 0, V.txt [], .nil, .nil], .agg [.int .i64 2, .int .i64 0, V.txt [105, 56], V.txt [98], .bool false, .int .i64 0, .int .i64 0, V.txt [], .nil, .nil]]], .agg [.int .i64 4, V.txt [97, 46, 66], .lst [.agg [.int .i64 1, .int .i64 1, V.txt [97, 46, 67], V.txt [97], .bool false, .int .i64 0, .int .i64 0, V.txt [], .nil, .nil]]], .agg [.int .i64 4, V.txt [97, 46, 67], .lst [.agg [.int .i64 1, .int .i64 1, V.txt [97, 46, 68], V.txt [97], .bool false, .int .i64 0, .int .i64 0, V.txt [], .nil, .nil]]], .agg [.int .i64 4, V.txt [97, 46, 68], .lst [.agg [.int .i64 1, .int .i64 1, V.txt [97, 46, 69], V.txt [97], .bool false, .int .i64 0, .int .i64 0, V.txt [], .nil, .nil]]], .agg [.int .i64 4, V.txt [97, 46, 69], .lst [.agg [.int .i64 1, .int .i64 1, V.txt [97, 46, 70], V.txt [97], .bool false, .int .i64 0, .int .i64 0, V.txt [], .nil, .nil]]], .agg [.int .i64 4, V.txt [97, 46, 70], .lst [.agg [.int .i64 1, .int .i64 1, V.txt [97, 46, 71], V.txt [97], .bool false, .int .i64 0, .int .i64 0, V.txt [], .nil, .nil]]], .agg [.int .i64 4, V.txt [97, 46, 71], .lst [.agg [.int .i64 1, .int .i64 1, V.txt [97, 46, 72], V.txt [97], .bool false, .int .i64 0, .int .i64 0, V.txt [], .nil, .nil]]], .agg [.int .i64 4, V.txt [97, 46, 72], .lst [.agg [.int .i64 1, .int .i64 1, V.txt [97, 46, 73], V.txt [97], .bool false, .int .i64 0, .int .i64 0, V.txt [], .nil, .nil]]], .agg [.int .i64 4, V.txt [97, 46, 73], .lst [.agg [.int .i64 1, .int .i64 1, V.txt [97, 46, 65], V.txt [97], .bool false, .int .i64 0, .int .i64 0, V.txt [], .nil, .nil]]]], .nil, .nil]
def d68 : V.D := .agg [.int .i64 12, .int .i64 0, V.txt [], .lst [.agg [.int .i64 12, .int .i64 0, V.txt [], .lst [.agg [.int .i64 12, .int .i64 0, V.txt [], .lst [.agg [.int .i64 12, .int .i64 0, V.txt [], .lst [.agg [.int .i64 12, .int .i64 0, V.txt [], .lst [.agg [.int .i64 12, .int .i64 0, V.txt [], .lst [.agg [.int .i64 12, .int .i64 0, V.txt [], .lst [.agg [.int .i64 12, .int .i64 0, V.txt [], .lst [.agg [.int .i64 12, .int .i64 0, V.txt [], .lst [.agg [.int .i64 12, .int .i64 0, V.txt [], .lst [.agg [.int .i64 3, .int .i64 0, V.txt [], .nil, .nil]], .lst [.int .i64 1]]], .lst [.int .i64 1]]], .lst [.int .i64 1]]], .lst [.int .i64 1]]], .lst [.int .i64 1]]], .lst [.int .i64 1]]], .lst [.int .i64 1]]], .lst [.int .i64 1]]], .lst [.int .i64 1]]], .lst [.int .i64 1]]
def d69 : V.D := .agg [.lst [.agg [.int .i64 5, V.txt [97, 46, 65], .lst [.agg [.int .i64 1, .int .i64 0, V.txt [97, 46, 66], V.txt [97], .bool false, .int .i64 0, .int .i64 0, V.txt [], .nil, .nil], .agg [.int .i64 2, .int .i64 0, V.txt [105, 56], V.txt [98], .bool false, .int .i64 0, .int .i64 0, V.txt [], .nil, .nil]]], .agg [.int .i64 4, V.txt [97, 46, 66], .lst [.agg [.int .i64 1, .int .i64 1, V.txt [97, 46, 67], V.txt [97], .bool false, .int .i64 0, .int .i64 0, V.txt [], .nil, .nil]]], .agg [.int .i64 4, V.txt [97, 46, 67], .lst [.agg [.int .i64 1, .int .i64 1, V.txt [97, 46, 68], V.txt [97], .bool false, .int .i64 0, .int .i64 0, V.txt [], .nil, .nil]]], .agg [.int .i64 4, V.txt [97, 46, 68], .lst [.agg [.int .i64 1, .int .i64 1, V.txt [97, 46, 69], V.txt [97], .bool false, .int .i64 0, .int .i64 0, V.txt [], .nil, .nil]]], .agg [.int .i64 4, V.txt [97, 46, 69], .lst [.agg [.int .i64 1, .int .i64 1, V.txt [97, 46, 70], V.txt [97], .bool false, .int .i64 0, .int .i64 0, V.txt [], .nil, .nil]]], .agg [.int .i64 4, V.txt [97, 46, 70], .lst [.agg [.int .i64 1, .int .i64 1, V.txt [97, 46, 71], V.txt [97], .bool false, .int .i64 0, .int .i64 0, V.txt [], .nil, .nil]]], .agg [.int .i64 4, V.txt [97, 46, 71], .lst [.agg [.int .i64 1, .int .i64 1, V.txt [97, 46, 72], V.txt [97], .bool false, .int .i64 0, .int .i64 0, V.txt [], .nil, .nil]]], .agg [.int .i64 4, V.txt [97, 46, 72], .lst [.agg [.int .i64 1, .int .i64 1, V.txt [97, 46, 73], V.txt [97], .bool false, .int .i64 0, .int .i64 0, V.txt [], .nil, .nil]]], .agg [.int .i64 4, V.txt [97, 46, 73], .lst [.agg [.int .i64 1, .int .i64 1, V.txt [97, 46, 74], V.txt [97], .bool false, .int .i64 0, .int .i64 0, V.txt [], .nil, .nil]]], .agg [.int .i64 4, V.txt [97, 46, 74], .lst [.agg [.int .i64 1, .int .i64 1, V.txt [105, 56], V.txt [97], .bool false, .int .i64 0, .int .i64 0, V.txt [], .nil, .nil]]]], .nil, .nil]
def d70 : V.D := .agg [.lst [.agg [.int .i64 4, V.txt [97, 46, 65], .lst [.agg [.int .i64 1, .int .i64 1, V.txt [97, 46, 66], V.txt [97], .bool false, .int .i64 0, .int .i64 0, V.txt [], .nil, .nil]]], .agg [.int .i64 4, V.txt [97, 46, 66], .lst [.agg [.int .i64 1, .int .i64 1, V.txt [97, 46, 67], V.txt [97], .bool false, .int .i64 0, .int .i64 0, V.txt [], .nil, .nil]]], .agg [.int .i64 4, V.txt [97, 46, 67], .lst [.agg [.int .i64 1, .int .i64 1, V.txt [97, 46, 68], V.txt [97], .bool false, .int .i64 0, .int .i64 0, V.txt [], .nil, .nil]]], .agg [.int .i64 4, V.txt [97, 46, 68], .lst [.agg [.int .i64 1, .int .i64 1, V.txt [97, 46, 69], V.txt [97], .bool false, .int .i64 0, .int .i64 0, V.txt [], .nil, .nil]]], .agg [.int .i64 4, V.txt [97, 46, 69], .lst [.agg [.int .i64 1, .int .i64 1, V.txt [97, 46, 70], V.txt [97], .bool false, .int .i64 0, .int .i64 0, V.txt [], .nil, .nil]]], .agg [.int .i64 4, V.txt [97, 46, 70], .lst [.agg [.int .i64 1, .int .i64 1, V.txt [97, 46, 71], V.txt [97], .bool false, .int .i64 0, .int .i64 0, V.txt [], .nil, .nil]]], .agg [.int .i64 4, V.txt [97, 46, 71], .lst [.agg [.int .i64 1, .int .i64 1, V.txt [97, 46, 72], V.txt [97], .bool false, .int .i64 0, .int .i64 0, V.txt [], .nil, .nil]]], .agg [.int .i64 4, V.txt [97, 46, 72], .lst [.agg [.int .i64 1, .int .i64 1, V.txt [97, 46, 73], V.txt [97], .bool false, .int .i64 0, .int .i64 0, V.txt [], .nil, .nil]]], .agg [.int .i64 4, V.txt [97, 46, 73], .lst [.agg [.int .i64 1, .int .i64 1, V.txt [97, 46, 74], V.txt [97], .bool false, .int .i64 0, .int .i64 0, V.txt [], .nil, .nil]]], .agg [.int .i64 4, V.txt [97, 46, 74], .lst [.agg [.int .i64 1, .int .i64 1, V.txt [97, 46, 65], V.txt [97], .bool false, .int .i64 0, .int .i64 0, V.txt [], .nil, .nil]]]], .nil, .nil]
def d71 : V.D := .agg [.lst [.agg [.int .i64 5, V.txt [97, 46, 65], .lst [.agg [.int .i64 1, .int .i64 0, V.txt [97, 46, 66], V.txt [97], .bool false, .int .i64 0, .int .i64 0, V.txt [], .nil, .nil], .agg [.int .i64 2, .int .i64 0, V.txt [105, 56], V.txt [98], .bool false, .int .i64 0, .int .i64 0, V.txt [], .nil, .nil]]], .agg [.int .i64 4, V.txt [97, 46, 66], .lst [.agg [.int .i64 1, .int .i64 1, V.txt [97, 46, 67], V.txt [97], .bool false, .int .i64 0, .int .i64 0, V.txt [], .nil, .nil]]], .agg [.int .i64 4, V.txt [97, 46, 67], .lst [.agg [.int .i64 1, .int .i64 1, V.txt [97, 46, 68], V.txt [97], .bool false, .int .i64 0, .int .i64 0, V.txt [], .nil, .nil]]], .agg [.int .i64 4, V.txt [97, 46, 68], .lst [.agg [.int .i64 1, .int .i64 1, V.txt [97, 46, 69], V.txt [97], .bool false, .int .i64 0, .int .i64 0, V.txt [], .nil, .nil]]], .agg [.int .i64 4, V.txt [97, 46, 69], .lst [.agg [.int .i64 1, .int .i64 1, V.txt [97, 46, 70], V.txt [97], .bool false, .int .i64 0, .int .i64 0, V.txt [], .nil, .nil]]], .agg [.int .i64 4, V.txt [97, 46, 70], .lst [.agg [.int .i64 1, .int .i64 1, V.txt [97, 46, 71], V.txt [97], .bool false, .int .i64 0, .int .i64 0, V.txt [], .nil, .nil]]], .agg [.int .i64 4, V.txt [97, 46, 71], .lst [.agg [.int .i64 1, .int .i64 1, V.txt [97, 46, 72], V.txt [97], .bool false, .int .i64 0, .int .i64 0, V.txt [], .nil, .nil]]], .agg [.int .i64 4, V.txt [97, 46, 72], .lst [.agg [.int .i64 1, .int .i64 1, V.txt [97, 46, 73], V.txt [97], .bool false, .int .i64 0, .int .i64 0, V.txt [], .nil, .nil]]], .agg [.int .i64 4, V.txt [97, 46, 73], .lst [.agg [.int .i64 1, .int .i64 1, V.txt [97, 46, 74], V.txt [97], .bool false, .int .i64 0, .int .i64 0, V.txt [], .nil, .nil]]], .agg [.int .i64 4, V.txt [97, 46, 74], .lst [.agg [.int .i64 1, .int .i64 1, V.txt [97, 46, 65], V.txt [97], .bool false, .int .i64 0, .int .i64 0, V.txt [], .nil, .nil]]]], .nil, .nil]
def a0 : List V.D := [(V.txt [97, 46, 65])]
def r0 : List V.D := [d0, (.int .i64 0), .nil]
def a1 : List V.D := [(V.txt [105, 56])]
def r1 : List V.D := [d1, (.int .i64 3), .nil]
def a2 : List V.D := [(V.txt [97, 46, 66])]
def r2 : List V.D := [d2, (.int .i64 0), .nil]
def a3 : List V.D := [(V.txt [97, 46, 67])]
def r3 : List V.D := [d3, (.int .i64 0), .nil]
def a4 : List V.D := [d4, (V.txt [97, 46, 67])]
def r4 : List V.D := [d5, (.bool true)]
def a5 : List V.D := [(V.txt [97, 46, 68])]
def r5 : List V.D := [d6, (.int .i64 0), .nil]
def a6 : List V.D := [d7, (V.txt [97, 46, 67])]
def r6 : List V.D := [d8, (.bool true)]
def a7 : List V.D := [d9, (.fn 24 [.fp [V.txt [97, 46, 68]]])]
def r7 : List V.D := [(.int .i64 3)]
def a8 : List V.D := [(V.txt [97, 46, 69])]
def r8 : List V.D := [d10, (.int .i64 0), .nil]
def a9 : List V.D := [d11, (V.txt [97, 46, 67])]
def r9 : List V.D := [d8, (.bool true)]
def a10 : List V.D := [d12, (.fn 24 [.fp [V.txt [97, 46, 68]]])]
def r10 : List V.D := [(.int .i64 3)]
def a11 : List V.D := [d12, (.fn 24 [.fp [V.txt [97, 46, 69]]])]
def r11 : List V.D := [(.int .i64 4)]
def a12 : List V.D := [(V.txt [97, 46, 70])]
def r12 : List V.D := [d13, (.int .i64 0), .nil]
def a13 : List V.D := [d14, (V.txt [97, 46, 67])]
def r13 : List V.D := [d8, (.bool true)]
def a14 : List V.D := [d15, (.fn 24 [.fp [V.txt [97, 46, 68]]])]
def r14 : List V.D := [(.int .i64 3)]
def a15 : List V.D := [d15, (.fn 24 [.fp [V.txt [97, 46, 69]]])]
def r15 : List V.D := [(.int .i64 4)]
def a16 : List V.D := [d15, (.fn 24 [.fp [V.txt [97, 46, 70]]])]
def r16 : List V.D := [(.int .i64 5)]
def a17 : List V.D := [(V.txt [97, 46, 71])]
def r17 : List V.D := [d16, (.int .i64 0), .nil]
def a18 : List V.D := [d17, (V.txt [97, 46, 67])]
def r18 : List V.D := [d8, (.bool true)]
def a19 : List V.D := [d18, (.fn 24 [.fp [V.txt [97, 46, 68]]])]
def r19 : List V.D := [(.int .i64 3)]
def a20 : List V.D := [d18, (.fn 24 [.fp [V.txt [97, 46, 69]]])]
def r20 : List V.D := [(.int .i64 4)]
def a21 : List V.D := [d18, (.fn 24 [.fp [V.txt [97, 46, 70]]])]
def r21 : List V.D := [(.int .i64 5)]
def a22 : List V.D := [d18, (.fn 24 [.fp [V.txt [97, 46, 71]]])]
def r22 : List V.D := [(.int .i64 6)]
def a23 : List V.D := [(V.txt [97, 46, 72])]
def r23 : List V.D := [d19, (.int .i64 0), .nil]
def a24 : List V.D := [d20, (V.txt [97, 46, 67])]
def r24 : List V.D := [d8, (.bool true)]
def a25 : List V.D := [d21, (.fn 24 [.fp [V.txt [97, 46, 68]]])]
def r25 : List V.D := [(.int .i64 3)]
def a26 : List V.D := [d21, (.fn 24 [.fp [V.txt [97, 46, 69]]])]
def r26 : List V.D := [(.int .i64 4)]
def a27 : List V.D := [d21, (.fn 24 [.fp [V.txt [97, 46, 70]]])]
def r27 : List V.D := [(.int .i64 5)]
def a28 : List V.D := [d21, (.fn 24 [.fp [V.txt [97, 46, 71]]])]
def r28 : List V.D := [(.int .i64 6)]
def a29 : List V.D := [d21, (.fn 24 [.fp [V.txt [97, 46, 72]]])]
def r29 : List V.D := [(.int .i64 7)]
def a30 : List V.D := [(V.txt [97, 46, 73])]
def r30 : List V.D := [d22, (.int .i64 0), .nil]
def a31 : List V.D := [d23, (V.txt [97, 46, 67])]
def r31 : List V.D := [d8, (.bool true)]
def a32 : List V.D := [d24, (.fn 24 [.fp [V.txt [97, 46, 68]]])]
def r32 : List V.D := [(.int .i64 3)]
def a33 : List V.D := [d24, (.fn 24 [.fp [V.txt [97, 46, 69]]])]
def r33 : List V.D := [(.int .i64 4)]
def a34 : List V.D := [d24, (.fn 24 [.fp [V.txt [97, 46, 70]]])]
def r34 : List V.D := [(.int .i64 5)]
def a35 : List V.D := [d24, (.fn 24 [.fp [V.txt [97, 46, 71]]])]
def r35 : List V.D := [(.int .i64 6)]
def a36 : List V.D := [d24, (.fn 24 [.fp [V.txt [97, 46, 72]]])]
def r36 : List V.D := [(.int .i64 7)]
def a37 : List V.D := [d24, (.fn 24 [.fp [V.txt [97, 46, 73]]])]
def r37 : List V.D := [(.int .i64 8)]
def a38 : List V.D := [(V.txt [97, 46, 74])]
def r38 : List V.D := [d25, (.int .i64 0), .nil]
def a39 : List V.D := [d26, (V.txt [97, 46, 67])]
def r39 : List V.D := [d8, (.bool true)]
def a40 : List V.D := [d27, (.fn 24 [.fp [V.txt [97, 46, 68]]])]
def r40 : List V.D := [(.int .i64 3)]
def a41 : List V.D := [d27, (.fn 24 [.fp [V.txt [97, 46, 69]]])]
def r41 : List V.D := [(.int .i64 4)]
def a42 : List V.D := [d27, (.fn 24 [.fp [V.txt [97, 46, 70]]])]
def r42 : List V.D := [(.int .i64 5)]
def a43 : List V.D := [d27, (.fn 24 [.fp [V.txt [97, 46, 71]]])]
def r43 : List V.D := [(.int .i64 6)]
def a44 : List V.D := [d27, (.fn 24 [.fp [V.txt [97, 46, 72]]])]
def r44 : List V.D := [(.int .i64 7)]
def a45 : List V.D := [d27, (.fn 24 [.fp [V.txt [97, 46, 73]]])]
def r45 : List V.D := [(.int .i64 8)]
def a46 : List V.D := [d27, (.fn 24 [.fp [V.txt [97, 46, 74]]])]
def r46 : List V.D := [(.int .i64 9)]
def a47 : List V.D := [d28, (V.txt [97, 46, 66])]
def r47 : List V.D := [d29, (.bool true)]
def a48 : List V.D := [d28, (V.txt [97, 46, 65])]
def r48 : List V.D := [(.agg [.int .i64 0, .int .i64 0, V.txt [], .nil, .nil]), (.bool false)]
def a49 : List V.D := [d30, (V.txt [97, 46, 65])]
def r49 : List V.D := [d29, (.bool true)]
def a50 : List V.D := [d31, (V.txt [97, 46, 65])]
def r50 : List V.D := [d29, (.bool true)]
def a51 : List V.D := [d32, (V.txt [97, 46, 65])]
def r51 : List V.D := [(.agg [.int .i64 0, .int .i64 0, V.txt [], .nil, .nil]), (.bool false)]
def a52 : List V.D := [d33, (V.txt [97, 46, 65])]
def r52 : List V.D := [d34, (.bool true)]
def a53 : List V.D := [d35, (V.txt [97, 46, 65])]
def r53 : List V.D := [d36, (.bool true)]
def a54 : List V.D := [d35, (V.txt [97, 46, 66])]
def r54 : List V.D := [(.int .i64 12)]
def a55 : List V.D := [d37, (V.txt [97, 46, 65])]
def r55 : List V.D := [d34, (.bool true)]
def a56 : List V.D := [d38, (V.txt [97, 46, 65])]
def r56 : List V.D := [(.agg [.int .i64 0, .int .i64 0, V.txt [], .nil, .nil]), (.bool false)]
def a57 : List V.D := [d39, (V.txt [97, 46, 65])]
def r57 : List V.D := [d34, (.bool true)]
def a58 : List V.D := [d4, (V.txt [97, 46, 65])]
def r58 : List V.D := [d40, (.bool true)]
def a59 : List V.D := [d4, (V.txt [97, 46, 67])]
def r59 : List V.D := [(.int .i64 12)]
def a60 : List V.D := [d4, (V.txt [97, 46, 66])]
def r60 : List V.D := [(.int .i64 12)]
def a61 : List V.D := [d41, (V.txt [97, 46, 65])]
def r61 : List V.D := [d34, (.bool true)]
def a62 : List V.D := [d42, (V.txt [97, 46, 65])]
def r62 : List V.D := [(.agg [.int .i64 0, .int .i64 0, V.txt [], .nil, .nil]), (.bool false)]
def a63 : List V.D := [d43, (V.txt [97, 46, 65])]
def r63 : List V.D := [d34, (.bool true)]
def a64 : List V.D := [d7, (V.txt [97, 46, 65])]
def r64 : List V.D := [d44, (.bool true)]
def a65 : List V.D := [d7, (V.txt [97, 46, 68])]
def r65 : List V.D := [(.int .i64 12)]
def a66 : List V.D := [d7, (V.txt [97, 46, 67])]
def r66 : List V.D := [(.int .i64 12)]
def a67 : List V.D := [d7, (V.txt [97, 46, 66])]
def r67 : List V.D := [(.int .i64 12)]
def a68 : List V.D := [d45, (V.txt [97, 46, 65])]
def r68 : List V.D := [d34, (.bool true)]
def a69 : List V.D := [d46, (V.txt [97, 46, 65])]
def r69 : List V.D := [(.agg [.int .i64 0, .int .i64 0, V.txt [], .nil, .nil]), (.bool false)]
def a70 : List V.D := [d47, (V.txt [97, 46, 65])]
def r70 : List V.D := [d34, (.bool true)]
def a71 : List V.D := [d11, (V.txt [97, 46, 65])]
def r71 : List V.D := [d48, (.bool true)]
def a72 : List V.D := [d11, (V.txt [97, 46, 69])]
def r72 : List V.D := [(.int .i64 12)]
def a73 : List V.D := [d11, (V.txt [97, 46, 68])]
def r73 : List V.D := [(.int .i64 12)]
def a74 : List V.D := [d11, (V.txt [97, 46, 67])]
def r74 : List V.D := [(.int .i64 12)]
def a75 : List V.D := [d11, (V.txt [97, 46, 66])]
def r75 : List V.D := [(.int .i64 12)]
def a76 : List V.D := [d49, (V.txt [97, 46, 65])]
def r76 : List V.D := [d34, (.bool true)]
def a77 : List V.D := [d50, (V.txt [97, 46, 65])]
def r77 : List V.D := [(.agg [.int .i64 0, .int .i64 0, V.txt [], .nil, .nil]), (.bool false)]
def a78 : List V.D := [d51, (V.txt [97, 46, 65])]
def r78 : List V.D := [d34, (.bool true)]
def a79 : List V.D := [d14, (V.txt [97, 46, 65])]
def r79 : List V.D := [d52, (.bool true)]
def a80 : List V.D := [d14, (V.txt [97, 46, 70])]
def r80 : List V.D := [(.int .i64 12)]
def a81 : List V.D := [d14, (V.txt [97, 46, 69])]
def r81 : List V.D := [(.int .i64 12)]
def a82 : List V.D := [d14, (V.txt [97, 46, 68])]
def r82 : List V.D := [(.int .i64 12)]
def a83 : List V.D := [d14, (V.txt [97, 46, 67])]
def r83 : List V.D := [(.int .i64 12)]
def a84 : List V.D := [d14, (V.txt [97, 46, 66])]
def r84 : List V.D := [(.int .i64 12)]
def a85 : List V.D := [d53, (V.txt [97, 46, 65])]
def r85 : List V.D := [d34, (.bool true)]
def a86 : List V.D := [d54, (V.txt [97, 46, 65])]
def r86 : List V.D := [(.agg [.int .i64 0, .int .i64 0, V.txt [], .nil, .nil]), (.bool false)]
def a87 : List V.D := [d55, (V.txt [97, 46, 65])]
def r87 : List V.D := [d34, (.bool true)]
def a88 : List V.D := [d17, (V.txt [97, 46, 65])]
def r88 : List V.D := [d56, (.bool true)]
def a89 : List V.D := [d17, (V.txt [97, 46, 71])]
def r89 : List V.D := [(.int .i64 12)]
def a90 : List V.D := [d17, (V.txt [97, 46, 70])]
def r90 : List V.D := [(.int .i64 12)]
def a91 : List V.D := [d17, (V.txt [97, 46, 69])]
def r91 : List V.D := [(.int .i64 12)]
def a92 : List V.D := [d17, (V.txt [97, 46, 68])]
def r92 : List V.D := [(.int .i64 12)]
def a93 : List V.D := [d17, (V.txt [97, 46, 67])]
def r93 : List V.D := [(.int .i64 12)]
def a94 : List V.D := [d17, (V.txt [97, 46, 66])]
def r94 : List V.D := [(.int .i64 12)]
def a95 : List V.D := [d57, (V.txt [97, 46, 65])]
def r95 : List V.D := [d34, (.bool true)]
def a96 : List V.D := [d58, (V.txt [97, 46, 65])]
def r96 : List V.D := [(.agg [.int .i64 0, .int .i64 0, V.txt [], .nil, .nil]), (.bool false)]
def a97 : List V.D := [d59, (V.txt [97, 46, 65])]
def r97 : List V.D := [d34, (.bool true)]
def a98 : List V.D := [d20, (V.txt [97, 46, 65])]
def r98 : List V.D := [d60, (.bool true)]
def a99 : List V.D := [d20, (V.txt [97, 46, 72])]
def r99 : List V.D := [(.int .i64 12)]
def a100 : List V.D := [d20, (V.txt [97, 46, 71])]
def r100 : List V.D := [(.int .i64 12)]
def a101 : List V.D := [d20, (V.txt [97, 46, 70])]
def r101 : List V.D := [(.int .i64 12)]
def a102 : List V.D := [d20, (V.txt [97, 46, 69])]
def r102 : List V.D := [(.int .i64 12)]
def a103 : List V.D := [d20, (V.txt [97, 46, 68])]
def r103 : List V.D := [(.int .i64 12)]
def a104 : List V.D := [d20, (V.txt [97, 46, 67])]
def r104 : List V.D := [(.int .i64 12)]
def a105 : List V.D := [d20, (V.txt [97, 46, 66])]
def r105 : List V.D := [(.int .i64 12)]
def a106 : List V.D := [d61, (V.txt [97, 46, 65])]
def r106 : List V.D := [d34, (.bool true)]
def a107 : List V.D := [d62, (V.txt [97, 46, 65])]
def r107 : List V.D := [(.agg [.int .i64 0, .int .i64 0, V.txt [], .nil, .nil]), (.bool false)]
def a108 : List V.D := [d63, (V.txt [97, 46, 65])]
def r108 : List V.D := [d34, (.bool true)]
def a109 : List V.D := [d23, (V.txt [97, 46, 65])]
def r109 : List V.D := [d64, (.bool true)]
def a110 : List V.D := [d23, (V.txt [97, 46, 73])]
def r110 : List V.D := [(.int .i64 12)]
def a111 : List V.D := [d23, (V.txt [97, 46, 72])]
def r111 : List V.D := [(.int .i64 12)]
def a112 : List V.D := [d23, (V.txt [97, 46, 71])]
def r112 : List V.D := [(.int .i64 12)]
def a113 : List V.D := [d23, (V.txt [97, 46, 70])]
def r113 : List V.D := [(.int .i64 12)]
def a114 : List V.D := [d23, (V.txt [97, 46, 69])]
def r114 : List V.D := [(.int .i64 12)]
def a115 : List V.D := [d23, (V.txt [97, 46, 68])]
def r115 : List V.D := [(.int .i64 12)]
def a116 : List V.D := [d23, (V.txt [97, 46, 67])]
def r116 : List V.D := [(.int .i64 12)]
def a117 : List V.D := [d23, (V.txt [97, 46, 66])]
def r117 : List V.D := [(.int .i64 12)]
def a118 : List V.D := [d65, (V.txt [97, 46, 65])]
def r118 : List V.D := [d34, (.bool true)]
def a119 : List V.D := [d66, (V.txt [97, 46, 65])]
def r119 : List V.D := [(.agg [.int .i64 0, .int .i64 0, V.txt [], .nil, .nil]), (.bool false)]
def a120 : List V.D := [d67, (V.txt [97, 46, 65])]
def r120 : List V.D := [d34, (.bool true)]
def a121 : List V.D := [d26, (V.txt [97, 46, 65])]
def r121 : List V.D := [d68, (.bool true)]
def a122 : List V.D := [d26, (V.txt [97, 46, 74])]
def r122 : List V.D := [(.int .i64 12)]
def a123 : List V.D := [d26, (V.txt [97, 46, 73])]
def r123 : List V.D := [(.int .i64 12)]
def a124 : List V.D := [d26, (V.txt [97, 46, 72])]
def r124 : List V.D := [(.int .i64 12)]
def a125 : List V.D := [d26, (V.txt [97, 46, 71])]
def r125 : List V.D := [(.int .i64 12)]
def a126 : List V.D := [d26, (V.txt [97, 46, 70])]
def r126 : List V.D := [(.int .i64 12)]
def a127 : List V.D := [d26, (V.txt [97, 46, 69])]
def r127 : List V.D := [(.int .i64 12)]
def a128 : List V.D := [d26, (V.txt [97, 46, 68])]
def r128 : List V.D := [(.int .i64 12)]
def a129 : List V.D := [d26, (V.txt [97, 46, 67])]
def r129 : List V.D := [(.int .i64 12)]
def a130 : List V.D := [d26, (V.txt [97, 46, 66])]
def r130 : List V.D := [(.int .i64 12)]
def a131 : List V.D := [d69, (V.txt [97, 46, 65])]
def r131 : List V.D := [d34, (.bool true)]
def a132 : List V.D := [d70, (V.txt [97, 46, 65])]
def r132 : List V.D := [(.agg [.int .i64 0, .int .i64 0, V.txt [], .nil, .nil]), (.bool false)]
def a133 : List V.D := [d71, (V.txt [97, 46, 65])]
def r133 : List V.D := [d34, (.bool true)]
def a134 : List V.D := []
def r134 : List V.D := [(.bool true)]
def t0 : V.Tbl := []
theorem to0 : V.TblOk Try.prog t0 := V.TblOk.nil
def an0 : V.An := { io := fun f => [6,7].contains f, ownRes := fun f => [].contains f, spec := V.inTbl t0, call := V.cloneOf clones }
theorem good0 : V.Good Try.prog an0 := ⟨named, V.spec_of_tbl to0, (fun _ _ _ _ h => nomatch h), V.call_clones cloneOk rfl⟩
set_option maxRecDepth 1000000 in
theorem e0 : V.ftells Try.prog an0 tab 400 21 a0 r0 = true := by kernel_rfl
theorem h0 : V.Holds Try.prog 21 a0 r0 := V.holds_of_ftells good0 regs follows (V.Shy.none rfl) tabOk e0
set_option maxRecDepth 1000000 in
theorem e1 : V.ftells Try.prog an0 tab 400 21 a1 r1 = true := by kernel_rfl
theorem h1 : V.Holds Try.prog 21 a1 r1 := V.holds_of_ftells good0 regs follows (V.Shy.none rfl) tabOk e1
set_option maxRecDepth 1000000 in
theorem e2 : V.ftells Try.prog an0 tab 400 21 a2 r2 = true := by kernel_rfl
theorem h2 : V.Holds Try.prog 21 a2 r2 := V.holds_of_ftells good0 regs follows (V.Shy.none rfl) tabOk e2
set_option maxRecDepth 1000000 in
theorem e3 : V.ftells Try.prog an0 tab 400 21 a3 r3 = true := by kernel_rfl
theorem h3 : V.Holds Try.prog 21 a3 r3 := V.holds_of_ftells good0 regs follows (V.Shy.none rfl) tabOk e3
set_option maxRecDepth 1000000 in
theorem e4 : V.ftells Try.prog an0 tab 400 17 a4 r4 = true := by kernel_rfl
theorem h4 : V.Holds Try.prog 17 a4 r4 := V.holds_of_ftells good0 regs follows (V.Shy.none rfl) tabOk e4
set_option maxRecDepth 1000000 in
theorem e5 : V.ftells Try.prog an0 tab 400 21 a5 r5 = true := by kernel_rfl
theorem h5 : V.Holds Try.prog 21 a5 r5 := V.holds_of_ftells good0 regs follows (V.Shy.none rfl) tabOk e5
set_option maxRecDepth 1000000 in
theorem e6 : V.ftells Try.prog an0 tab 400 17 a6 r6 = true := by kernel_rfl
theorem h6 : V.Holds Try.prog 17 a6 r6 := V.holds_of_ftells good0 regs follows (V.Shy.none rfl) tabOk e6
set_option maxRecDepth 1000000 in
theorem e7 : V.ftells Try.prog an0 tab 400 23 a7 r7 = true := by kernel_rfl
theorem h7 : V.Holds Try.prog 23 a7 r7 := V.holds_of_ftells good0 regs follows (V.Shy.none rfl) tabOk e7
set_option maxRecDepth 1000000 in
theorem e8 : V.ftells Try.prog an0 tab 400 21 a8 r8 = true := by kernel_rfl
theorem h8 : V.Holds Try.prog 21 a8 r8 := V.holds_of_ftells good0 regs follows (V.Shy.none rfl) tabOk e8
set_option maxRecDepth 1000000 in
theorem e9 : V.ftells Try.prog an0 tab 400 17 a9 r9 = true := by kernel_rfl
theorem h9 : V.Holds Try.prog 17 a9 r9 := V.holds_of_ftells good0 regs follows (V.Shy.none rfl) tabOk e9
set_option maxRecDepth 1000000 in
theorem e10 : V.ftells Try.prog an0 tab 400 23 a10 r10 = true := by kernel_rfl
theorem h10 : V.Holds Try.prog 23 a10 r10 := V.holds_of_ftells good0 regs follows (V.Shy.none rfl) tabOk e10
set_option maxRecDepth 1000000 in
theorem e11 : V.ftells Try.prog an0 tab 400 23 a11 r11 = true := by kernel_rfl
theorem h11 : V.Holds Try.prog 23 a11 r11 := V.holds_of_ftells good0 regs follows (V.Shy.none rfl) tabOk e11
set_option maxRecDepth 1000000 in
theorem e12 : V.ftells Try.prog an0 tab 400 21 a12 r12 = true := by kernel_rfl
theorem h12 : V.Holds Try.prog 21 a12 r12 := V.holds_of_ftells good0 regs follows (V.Shy.none rfl) tabOk e12
set_option maxRecDepth 1000000 in
theorem e13 : V.ftells Try.prog an0 tab 400 17 a13 r13 = true := by kernel_rfl
theorem h13 : V.Holds Try.prog 17 a13 r13 := V.holds_of_ftells good0 regs follows (V.Shy.none rfl) tabOk e13
set_option maxRecDepth 1000000 in
theorem e14 : V.ftells Try.prog an0 tab 400 23 a14 r14 = true := by kernel_rfl
theorem h14 : V.Holds Try.prog 23 a14 r14 := V.holds_of_ftells good0 regs follows (V.Shy.none rfl) tabOk e14
set_option maxRecDepth 1000000 in
theorem e15 : V.ftells Try.prog an0 tab 400 23 a15 r15 = true := by kernel_rfl
theorem h15 : V.Holds Try.prog 23 a15 r15 := V.holds_of_ftells good0 regs follows (V.Shy.none rfl) tabOk e15
set_option maxRecDepth 1000000 in
theorem e16 : V.ftells Try.prog an0 tab 400 23 a16 r16 = true := by kernel_rfl
theorem h16 : V.Holds Try.prog 23 a16 r16 := V.holds_of_ftells good0 regs follows (V.Shy.none rfl) tabOk e16
set_option maxRecDepth 1000000 in
theorem e17 : V.ftells Try.prog an0 tab 400 21 a17 r17 = true := by kernel_rfl
theorem h17 : V.Holds Try.prog 21 a17 r17 := V.holds_of_ftells good0 regs follows (V.Shy.none rfl) tabOk e17
set_option maxRecDepth 1000000 in
theorem e18 : V.ftells Try.prog an0 tab 400 17 a18 r18 = true := by kernel_rfl
theorem h18 : V.Holds Try.prog 17 a18 r18 := V.holds_of_ftells good0 regs follows (V.Shy.none rfl) tabOk e18
set_option maxRecDepth 1000000 in
theorem e19 : V.ftells Try.prog an0 tab 400 23 a19 r19 = true := by kernel_rfl
theorem h19 : V.Holds Try.prog 23 a19 r19 := V.holds_of_ftells good0 regs follows (V.Shy.none rfl) tabOk e19
set_option maxRecDepth 1000000 in
theorem e20 : V.ftells Try.prog an0 tab 400 23 a20 r20 = true := by kernel_rfl
theorem h20 : V.Holds Try.prog 23 a20 r20 := V.holds_of_ftells good0 regs follows (V.Shy.none rfl) tabOk e20
set_option maxRecDepth 1000000 in
theorem e21 : V.ftells Try.prog an0 tab 400 23 a21 r21 = true := by kernel_rfl
theorem h21 : V.Holds Try.prog 23 a21 r21 := V.holds_of_ftells good0 regs follows (V.Shy.none rfl) tabOk e21
set_option maxRecDepth 1000000 in
theorem e22 : V.ftells Try.prog an0 tab 400 23 a22 r22 = true := by kernel_rfl
theorem h22 : V.Holds Try.prog 23 a22 r22 := V.holds_of_ftells good0 regs follows (V.Shy.none rfl) tabOk e22
set_option maxRecDepth 1000000 in
theorem e23 : V.ftells Try.prog an0 tab 400 21 a23 r23 = true := by kernel_rfl
theorem h23 : V.Holds Try.prog 21 a23 r23 := V.holds_of_ftells good0 regs follows (V.Shy.none rfl) tabOk e23
set_option maxRecDepth 1000000 in
theorem e24 : V.ftells Try.prog an0 tab 400 17 a24 r24 = true := by kernel_rfl
theorem h24 : V.Holds Try.prog 17 a24 r24 := V.holds_of_ftells good0 regs follows (V.Shy.none rfl) tabOk e24
set_option maxRecDepth 1000000 in
theorem e25 : V.ftells Try.prog an0 tab 400 23 a25 r25 = true := by kernel_rfl
theorem h25 : V.Holds Try.prog 23 a25 r25 := V.holds_of_ftells good0 regs follows (V.Shy.none rfl) tabOk e25
set_option maxRecDepth 1000000 in
theorem e26 : V.ftells Try.prog an0 tab 400 23 a26 r26 = true := by kernel_rfl
theorem h26 : V.Holds Try.prog 23 a26 r26 := V.holds_of_ftells good0 regs follows (V.Shy.none rfl) tabOk e26
set_option maxRecDepth 1000000 in
theorem e27 : V.ftells Try.prog an0 tab 400 23 a27 r27 = true := by kernel_rfl
theorem h27 : V.Holds Try.prog 23 a27 r27 := V.holds_of_ftells good0 regs follows (V.Shy.none rfl) tabOk e27
set_option maxRecDepth 1000000 in
theorem e28 : V.ftells Try.prog an0 tab 400 23 a28 r28 = true := by kernel_rfl
theorem h28 : V.Holds Try.prog 23 a28 r28 := V.holds_of_ftells good0 regs follows (V.Shy.none rfl) tabOk e28
set_option maxRecDepth 1000000 in
theorem e29 : V.ftells Try.prog an0 tab 400 23 a29 r29 = true := by kernel_rfl
theorem h29 : V.Holds Try.prog 23 a29 r29 := V.holds_of_ftells good0 regs follows (V.Shy.none rfl) tabOk e29
set_option maxRecDepth 1000000 in
theorem e30 : V.ftells Try.prog an0 tab 400 21 a30 r30 = true := by kernel_rfl
theorem h30 : V.Holds Try.prog 21 a30 r30 := V.holds_of_ftells good0 regs follows (V.Shy.none rfl) tabOk e30
set_option maxRecDepth 1000000 in
theorem e31 : V.ftells Try.prog an0 tab 400 17 a31 r31 = true := by kernel_rfl
theorem h31 : V.Holds Try.prog 17 a31 r31 := V.holds_of_ftells good0 regs follows (V.Shy.none rfl) tabOk e31
set_option maxRecDepth 1000000 in
theorem e32 : V.ftells Try.prog an0 tab 400 23 a32 r32 = true := by kernel_rfl
theorem h32 : V.Holds Try.prog 23 a32 r32 := V.holds_of_ftells good0 regs follows (V.Shy.none rfl) tabOk e32
set_option maxRecDepth 1000000 in
theorem e33 : V.ftells Try.prog an0 tab 400 23 a33 r33 = true := by kernel_rfl
theorem h33 : V.Holds Try.prog 23 a33 r33 := V.holds_of_ftells good0 regs follows (V.Shy.none rfl) tabOk e33
set_option maxRecDepth 1000000 in
theorem e34 : V.ftells Try.prog an0 tab 400 23 a34 r34 = true := by kernel_rfl
theorem h34 : V.Holds Try.prog 23 a34 r34 := V.holds_of_ftells good0 regs follows (V.Shy.none rfl) tabOk e34
set_option maxRecDepth 1000000 in
theorem e35 : V.ftells Try.prog an0 tab 400 23 a35 r35 = true := by kernel_rfl
theorem h35 : V.Holds Try.prog 23 a35 r35 := V.holds_of_ftells good0 regs follows (V.Shy.none rfl) tabOk e35
set_option maxRecDepth 1000000 in
theorem e36 : V.ftells Try.prog an0 tab 400 23 a36 r36 = true := by kernel_rfl
theorem h36 : V.Holds Try.prog 23 a36 r36 := V.holds_of_ftells good0 regs follows (V.Shy.none rfl) tabOk e36
set_option maxRecDepth 1000000 in
theorem e37 : V.ftells Try.prog an0 tab 400 23 a37 r37 = true := by kernel_rfl
theorem h37 : V.Holds Try.prog 23 a37 r37 := V.holds_of_ftells good0 regs follows (V.Shy.none rfl) tabOk e37
set_option maxRecDepth 1000000 in
theorem e38 : V.ftells Try.prog an0 tab 400 21 a38 r38 = true := by kernel_rfl
theorem h38 : V.Holds Try.prog 21 a38 r38 := V.holds_of_ftells good0 regs follows (V.Shy.none rfl) tabOk e38
set_option maxRecDepth 1000000 in
theorem e39 : V.ftells Try.prog an0 tab 400 17 a39 r39 = true := by kernel_rfl
theorem h39 : V.Holds Try.prog 17 a39 r39 := V.holds_of_ftells good0 regs follows (V.Shy.none rfl) tabOk e39
set_option maxRecDepth 1000000 in
theorem e40 : V.ftells Try.prog an0 tab 400 23 a40 r40 = true := by kernel_rfl
theorem h40 : V.Holds Try.prog 23 a40 r40 := V.holds_of_ftells good0 regs follows (V.Shy.none rfl) tabOk e40
set_option maxRecDepth 1000000 in
theorem e41 : V.ftells Try.prog an0 tab 400 23 a41 r41 = true := by kernel_rfl
theorem h41 : V.Holds Try.prog 23 a41 r41 := V.holds_of_ftells good0 regs follows (V.Shy.none rfl) tabOk e41
set_option maxRecDepth 1000000 in
theorem e42 : V.ftells Try.prog an0 tab 400 23 a42 r42 = true := by kernel_rfl
theorem h42 : V.Holds Try.prog 23 a42 r42 := V.holds_of_ftells good0 regs follows (V.Shy.none rfl) tabOk e42
set_option maxRecDepth 1000000 in
theorem e43 : V.ftells Try.prog an0 tab 400 23 a43 r43 = true := by kernel_rfl
theorem h43 : V.Holds Try.prog 23 a43 r43 := V.holds_of_ftells good0 regs follows (V.Shy.none rfl) tabOk e43
set_option maxRecDepth 1000000 in
theorem e44 : V.ftells Try.prog an0 tab 400 23 a44 r44 = true := by kernel_rfl
theorem h44 : V.Holds Try.prog 23 a44 r44 := V.holds_of_ftells good0 regs follows (V.Shy.none rfl) tabOk e44
set_option maxRecDepth 1000000 in
theorem e45 : V.ftells Try.prog an0 tab 400 23 a45 r45 = true := by kernel_rfl
theorem h45 : V.Holds Try.prog 23 a45 r45 := V.holds_of_ftells good0 regs follows (V.Shy.none rfl) tabOk e45
set_option maxRecDepth 1000000 in
theorem e46 : V.ftells Try.prog an0 tab 400 23 a46 r46 = true := by kernel_rfl
theorem h46 : V.Holds Try.prog 23 a46 r46 := V.holds_of_ftells good0 regs follows (V.Shy.none rfl) tabOk e46
def t1 : V.Tbl := [(21, [(a0, r0), (a1, r1), (a2, r2), (a3, r3), (a5, r5), (a8, r8), (a12, r12), (a17, r17), (a23, r23), (a30, r30), (a38, r38)]), (17, [(a4, r4), (a6, r6), (a9, r9), (a13, r13), (a18, r18), (a24, r24), (a31, r31), (a39, r39)]), (23, [(a7, r7), (a10, r10), (a11, r11), (a14, r14), (a15, r15), (a16, r16), (a19, r19), (a20, r20), (a21, r21), (a22, r22), (a25, r25), (a26, r26), (a27, r27), (a28, r28), (a29, r29), (a32, r32), (a33, r33), (a34, r34), (a35, r35), (a36, r36), (a37, r37), (a40, r40), (a41, r41), (a42, r42), (a43, r43), (a44, r44), (a45, r45), (a46, r46)])]
theorem to1 : V.TblOk Try.prog t1 := (V.TblOk.cons (V.RowOk.cons h0 (V.RowOk.cons h1 (V.RowOk.cons h2 (V.RowOk.cons h3 (V.RowOk.cons h5 (V.RowOk.cons h8 (V.RowOk.cons h12 (V.RowOk.cons h17 (V.RowOk.cons h23 (V.RowOk.cons h30 (V.RowOk.cons h38 V.RowOk.nil))))))))))) (V.TblOk.cons (V.RowOk.cons h4 (V.RowOk.cons h6 (V.RowOk.cons h9 (V.RowOk.cons h13 (V.RowOk.cons h18 (V.RowOk.cons h24 (V.RowOk.cons h31 (V.RowOk.cons h39 V.RowOk.nil)))))))) (V.TblOk.cons (V.RowOk.cons h7 (V.RowOk.cons h10 (V.RowOk.cons h11 (V.RowOk.cons h14 (V.RowOk.cons h15 (V.RowOk.cons h16 (V.RowOk.cons h19 (V.RowOk.cons h20 (V.RowOk.cons h21 (V.RowOk.cons h22 (V.RowOk.cons h25 (V.RowOk.cons h26 (V.RowOk.cons h27 (V.RowOk.cons h28 (V.RowOk.cons h29 (V.RowOk.cons h32 (V.RowOk.cons h33 (V.RowOk.cons h34 (V.RowOk.cons h35 (V.RowOk.cons h36 (V.RowOk.cons h37 (V.RowOk.cons h40 (V.RowOk.cons h41 (V.RowOk.cons h42 (V.RowOk.cons h43 (V.RowOk.cons h44 (V.RowOk.cons h45 (V.RowOk.cons h46 V.RowOk.nil)))))))))))))))))))))))))))) V.TblOk.nil)))
def an1 : V.An := { io := fun f => [6,7].contains f, ownRes := fun f => [].contains f, spec := V.inTbl t1, call := V.cloneOf clones }
theorem good1 : V.Good Try.prog an1 := ⟨named, V.spec_of_tbl to1, (fun _ _ _ _ h => nomatch h), V.call_clones cloneOk rfl⟩
set_option maxRecDepth 1000000 in
theorem e47 : V.ftells Try.prog an1 tab 400 8 a47 r47 = true := by kernel_rfl
theorem h47 : V.Holds Try.prog 8 a47 r47 := V.holds_of_ftells good1 regs follows (V.Shy.none rfl) tabOk e47
set_option maxRecDepth 1000000 in
theorem e48 : V.ftells Try.prog an1 tab 400 8 a48 r48 = true := by kernel_rfl
theorem h48 : V.Holds Try.prog 8 a48 r48 := V.holds_of_ftells good1 regs follows (V.Shy.none rfl) tabOk e48
set_option maxRecDepth 1000000 in
theorem e49 : V.ftells Try.prog an1 tab 400 8 a49 r49 = true := by kernel_rfl
theorem h49 : V.Holds Try.prog 8 a49 r49 := V.holds_of_ftells good1 regs follows (V.Shy.none rfl) tabOk e49
set_option maxRecDepth 1000000 in
theorem e50 : V.ftells Try.prog an1 tab 400 8 a50 r50 = true := by kernel_rfl
theorem h50 : V.Holds Try.prog 8 a50 r50 := V.holds_of_ftells good1 regs follows (V.Shy.none rfl) tabOk e50
set_option maxRecDepth 1000000 in
theorem e51 : V.ftells Try.prog an1 tab 400 8 a51 r51 = true := by kernel_rfl
theorem h51 : V.Holds Try.prog 8 a51 r51 := V.holds_of_ftells good1 regs follows (V.Shy.none rfl) tabOk e51
set_option maxRecDepth 1000000 in
theorem e52 : V.ftells Try.prog an1 tab 400 8 a52 r52 = true := by kernel_rfl
theorem h52 : V.Holds Try.prog 8 a52 r52 := V.holds_of_ftells good1 regs follows (V.Shy.none rfl) tabOk e52
set_option maxRecDepth 1000000 in
theorem e53 : V.ftells Try.prog an1 tab 400 8 a53 r53 = true := by kernel_rfl
theorem h53 : V.Holds Try.prog 8 a53 r53 := V.holds_of_ftells good1 regs follows (V.Shy.none rfl) tabOk e53
set_option maxRecDepth 1000000 in
theorem e54 : V.ftells Try.prog an1 tab 400 10 a54 r54 = true := by kernel_rfl
theorem h54 : V.Holds Try.prog 10 a54 r54 := V.holds_of_ftells good1 regs follows (V.Shy.none rfl) tabOk e54
set_option maxRecDepth 1000000 in
theorem e55 : V.ftells Try.prog an1 tab 400 8 a55 r55 = true := by kernel_rfl
theorem h55 : V.Holds Try.prog 8 a55 r55 := V.holds_of_ftells good1 regs follows (V.Shy.none rfl) tabOk e55
set_option maxRecDepth 1000000 in
theorem e56 : V.ftells Try.prog an1 tab 400 8 a56 r56 = true := by kernel_rfl
theorem h56 : V.Holds Try.prog 8 a56 r56 := V.holds_of_ftells good1 regs follows (V.Shy.none rfl) tabOk e56
set_option maxRecDepth 1000000 in
theorem e57 : V.ftells Try.prog an1 tab 400 8 a57 r57 = true := by kernel_rfl
theorem h57 : V.Holds Try.prog 8 a57 r57 := V.holds_of_ftells good1 regs follows (V.Shy.none rfl) tabOk e57
set_option maxRecDepth 1000000 in
theorem e58 : V.ftells Try.prog an1 tab 400 8 a58 r58 = true := by kernel_rfl
theorem h58 : V.Holds Try.prog 8 a58 r58 := V.holds_of_ftells good1 regs follows (V.Shy.none rfl) tabOk e58
set_option maxRecDepth 1000000 in
theorem e59 : V.ftells Try.prog an1 tab 400 10 a59 r59 = true := by kernel_rfl
theorem h59 : V.Holds Try.prog 10 a59 r59 := V.holds_of_ftells good1 regs follows (V.Shy.none rfl) tabOk e59
set_option maxRecDepth 1000000 in
theorem e60 : V.ftells Try.prog an1 tab 400 10 a60 r60 = true := by kernel_rfl
theorem h60 : V.Holds Try.prog 10 a60 r60 := V.holds_of_ftells good1 regs follows (V.Shy.none rfl) tabOk e60
set_option maxRecDepth 1000000 in
theorem e61 : V.ftells Try.prog an1 tab 400 8 a61 r61 = true := by kernel_rfl
theorem h61 : V.Holds Try.prog 8 a61 r61 := V.holds_of_ftells good1 regs follows (V.Shy.none rfl) tabOk e61
set_option maxRecDepth 1000000 in
theorem e62 : V.ftells Try.prog an1 tab 400 8 a62 r62 = true := by kernel_rfl
theorem h62 : V.Holds Try.prog 8 a62 r62 := V.holds_of_ftells good1 regs follows (V.Shy.none rfl) tabOk e62
set_option maxRecDepth 1000000 in
theorem e63 : V.ftells Try.prog an1 tab 400 8 a63 r63 = true := by kernel_rfl
theorem h63 : V.Holds Try.prog 8 a63 r63 := V.holds_of_ftells good1 regs follows (V.Shy.none rfl) tabOk e63
set_option maxRecDepth 1000000 in
theorem e64 : V.ftells Try.prog an1 tab 400 8 a64 r64 = true := by kernel_rfl
theorem h64 : V.Holds Try.prog 8 a64 r64 := V.holds_of_ftells good1 regs follows (V.Shy.none rfl) tabOk e64
set_option maxRecDepth 1000000 in
theorem e65 : V.ftells Try.prog an1 tab 400 10 a65 r65 = true := by kernel_rfl
theorem h65 : V.Holds Try.prog 10 a65 r65 := V.holds_of_ftells good1 regs follows (V.Shy.none rfl) tabOk e65
set_option maxRecDepth 1000000 in
theorem e66 : V.ftells Try.prog an1 tab 400 10 a66 r66 = true := by kernel_rfl
theorem h66 : V.Holds Try.prog 10 a66 r66 := V.holds_of_ftells good1 regs follows (V.Shy.none rfl) tabOk e66
set_option maxRecDepth 1000000 in
theorem e67 : V.ftells Try.prog an1 tab 400 10 a67 r67 = true := by kernel_rfl
theorem h67 : V.Holds Try.prog 10 a67 r67 := V.holds_of_ftells good1 regs follows (V.Shy.none rfl) tabOk e67
set_option maxRecDepth 1000000 in
theorem e68 : V.ftells Try.prog an1 tab 400 8 a68 r68 = true := by kernel_rfl
theorem h68 : V.Holds Try.prog 8 a68 r68 := V.holds_of_ftells good1 regs follows (V.Shy.none rfl) tabOk e68
set_option maxRecDepth 1000000 in
theorem e69 : V.ftells Try.prog an1 tab 400 8 a69 r69 = true := by kernel_rfl
theorem h69 : V.Holds Try.prog 8 a69 r69 := V.holds_of_ftells good1 regs follows (V.Shy.none rfl) tabOk e69
set_option maxRecDepth 1000000 in
theorem e70 : V.ftells Try.prog an1 tab 400 8 a70 r70 = true := by kernel_rfl
theorem h70 : V.Holds Try.prog 8 a70 r70 := V.holds_of_ftells good1 regs follows (V.Shy.none rfl) tabOk e70
set_option maxRecDepth 1000000 in
theorem e71 : V.ftells Try.prog an1 tab 400 8 a71 r71 = true := by kernel_rfl
theorem h71 : V.Holds Try.prog 8 a71 r71 := V.holds_of_ftells good1 regs follows (V.Shy.none rfl) tabOk e71
set_option maxRecDepth 1000000 in
theorem e72 : V.ftells Try.prog an1 tab 400 10 a72 r72 = true := by kernel_rfl
theorem h72 : V.Holds Try.prog 10 a72 r72 := V.holds_of_ftells good1 regs follows (V.Shy.none rfl) tabOk e72
set_option maxRecDepth 1000000 in
theorem e73 : V.ftells Try.prog an1 tab 400 10 a73 r73 = true := by kernel_rfl
theorem h73 : V.Holds Try.prog 10 a73 r73 := V.holds_of_ftells good1 regs follows (V.Shy.none rfl) tabOk e73
set_option maxRecDepth 1000000 in
theorem e74 : V.ftells Try.prog an1 tab 400 10 a74 r74 = true := by kernel_rfl
theorem h74 : V.Holds Try.prog 10 a74 r74 := V.holds_of_ftells good1 regs follows (V.Shy.none rfl) tabOk e74
set_option maxRecDepth 1000000 in
theorem e75 : V.ftells Try.prog an1 tab 400 10 a75 r75 = true := by kernel_rfl
theorem h75 : V.Holds Try.prog 10 a75 r75 := V.holds_of_ftells good1 regs follows (V.Shy.none rfl) tabOk e75
set_option maxRecDepth 1000000 in
theorem e76 : V.ftells Try.prog an1 tab 400 8 a76 r76 = true := by kernel_rfl
theorem h76 : V.Holds Try.prog 8 a76 r76 := V.holds_of_ftells good1 regs follows (V.Shy.none rfl) tabOk e76
set_option maxRecDepth 1000000 in
theorem e77 : V.ftells Try.prog an1 tab 400 8 a77 r77 = true := by kernel_rfl
theorem h77 : V.Holds Try.prog 8 a77 r77 := V.holds_of_ftells good1 regs follows (V.Shy.none rfl) tabOk e77
set_option maxRecDepth 1000000 in
theorem e78 : V.ftells Try.prog an1 tab 400 8 a78 r78 = true := by kernel_rfl
theorem h78 : V.Holds Try.prog 8 a78 r78 := V.holds_of_ftells good1 regs follows (V.Shy.none rfl) tabOk e78
set_option maxRecDepth 1000000 in
theorem e79 : V.ftells Try.prog an1 tab 400 8 a79 r79 = true := by kernel_rfl
theorem h79 : V.Holds Try.prog 8 a79 r79 := V.holds_of_ftells good1 regs follows (V.Shy.none rfl) tabOk e79
set_option maxRecDepth 1000000 in
theorem e80 : V.ftells Try.prog an1 tab 400 10 a80 r80 = true := by kernel_rfl
theorem h80 : V.Holds Try.prog 10 a80 r80 := V.holds_of_ftells good1 regs follows (V.Shy.none rfl) tabOk e80
set_option maxRecDepth 1000000 in
theorem e81 : V.ftells Try.prog an1 tab 400 10 a81 r81 = true := by kernel_rfl
theorem h81 : V.Holds Try.prog 10 a81 r81 := V.holds_of_ftells good1 regs follows (V.Shy.none rfl) tabOk e81
set_option maxRecDepth 1000000 in
theorem e82 : V.ftells Try.prog an1 tab 400 10 a82 r82 = true := by kernel_rfl
theorem h82 : V.Holds Try.prog 10 a82 r82 := V.holds_of_ftells good1 regs follows (V.Shy.none rfl) tabOk e82
set_option maxRecDepth 1000000 in
theorem e83 : V.ftells Try.prog an1 tab 400 10 a83 r83 = true := by kernel_rfl
theorem h83 : V.Holds Try.prog 10 a83 r83 := V.holds_of_ftells good1 regs follows (V.Shy.none rfl) tabOk e83
set_option maxRecDepth 1000000 in
theorem e84 : V.ftells Try.prog an1 tab 400 10 a84 r84 = true := by kernel_rfl
theorem h84 : V.Holds Try.prog 10 a84 r84 := V.holds_of_ftells good1 regs follows (V.Shy.none rfl) tabOk e84
set_option maxRecDepth 1000000 in
theorem e85 : V.ftells Try.prog an1 tab 400 8 a85 r85 = true := by kernel_rfl
theorem h85 : V.Holds Try.prog 8 a85 r85 := V.holds_of_ftells good1 regs follows (V.Shy.none rfl) tabOk e85
set_option maxRecDepth 1000000 in
theorem e86 : V.ftells Try.prog an1 tab 400 8 a86 r86 = true := by kernel_rfl
theorem h86 : V.Holds Try.prog 8 a86 r86 := V.holds_of_ftells good1 regs follows (V.Shy.none rfl) tabOk e86
set_option maxRecDepth 1000000 in
theorem e87 : V.ftells Try.prog an1 tab 400 8 a87 r87 = true := by kernel_rfl
theorem h87 : V.Holds Try.prog 8 a87 r87 := V.holds_of_ftells good1 regs follows (V.Shy.none rfl) tabOk e87
set_option maxRecDepth 1000000 in
theorem e88 : V.ftells Try.prog an1 tab 400 8 a88 r88 = true := by kernel_rfl
theorem h88 : V.Holds Try.prog 8 a88 r88 := V.holds_of_ftells good1 regs follows (V.Shy.none rfl) tabOk e88
set_option maxRecDepth 1000000 in
theorem e89 : V.ftells Try.prog an1 tab 400 10 a89 r89 = true := by kernel_rfl
theorem h89 : V.Holds Try.prog 10 a89 r89 := V.holds_of_ftells good1 regs follows (V.Shy.none rfl) tabOk e89
set_option maxRecDepth 1000000 in
theorem e90 : V.ftells Try.prog an1 tab 400 10 a90 r90 = true := by kernel_rfl
theorem h90 : V.Holds Try.prog 10 a90 r90 := V.holds_of_ftells good1 regs follows (V.Shy.none rfl) tabOk e90
set_option maxRecDepth 1000000 in
theorem e91 : V.ftells Try.prog an1 tab 400 10 a91 r91 = true := by kernel_rfl
theorem h91 : V.Holds Try.prog 10 a91 r91 := V.holds_of_ftells good1 regs follows (V.Shy.none rfl) tabOk e91
set_option maxRecDepth 1000000 in
theorem e92 : V.ftells Try.prog an1 tab 400 10 a92 r92 = true := by kernel_rfl
theorem h92 : V.Holds Try.prog 10 a92 r92 := V.holds_of_ftells good1 regs follows (V.Shy.none rfl) tabOk e92
set_option maxRecDepth 1000000 in
theorem e93 : V.ftells Try.prog an1 tab 400 10 a93 r93 = true := by kernel_rfl
theorem h93 : V.Holds Try.prog 10 a93 r93 := V.holds_of_ftells good1 regs follows (V.Shy.none rfl) tabOk e93
set_option maxRecDepth 1000000 in
theorem e94 : V.ftells Try.prog an1 tab 400 10 a94 r94 = true := by kernel_rfl
theorem h94 : V.Holds Try.prog 10 a94 r94 := V.holds_of_ftells good1 regs follows (V.Shy.none rfl) tabOk e94
set_option maxRecDepth 1000000 in
theorem e95 : V.ftells Try.prog an1 tab 400 8 a95 r95 = true := by kernel_rfl
theorem h95 : V.Holds Try.prog 8 a95 r95 := V.holds_of_ftells good1 regs follows (V.Shy.none rfl) tabOk e95
set_option maxRecDepth 1000000 in
theorem e96 : V.ftells Try.prog an1 tab 400 8 a96 r96 = true := by kernel_rfl
theorem h96 : V.Holds Try.prog 8 a96 r96 := V.holds_of_ftells good1 regs follows (V.Shy.none rfl) tabOk e96
set_option maxRecDepth 1000000 in
theorem e97 : V.ftells Try.prog an1 tab 400 8 a97 r97 = true := by kernel_rfl
theorem h97 : V.Holds Try.prog 8 a97 r97 := V.holds_of_ftells good1 regs follows (V.Shy.none rfl) tabOk e97
set_option maxRecDepth 1000000 in
theorem e98 : V.ftells Try.prog an1 tab 400 8 a98 r98 = true := by kernel_rfl
theorem h98 : V.Holds Try.prog 8 a98 r98 := V.holds_of_ftells good1 regs follows (V.Shy.none rfl) tabOk e98
set_option maxRecDepth 1000000 in
theorem e99 : V.ftells Try.prog an1 tab 400 10 a99 r99 = true := by kernel_rfl
theorem h99 : V.Holds Try.prog 10 a99 r99 := V.holds_of_ftells good1 regs follows (V.Shy.none rfl) tabOk e99
set_option maxRecDepth 1000000 in
theorem e100 : V.ftells Try.prog an1 tab 400 10 a100 r100 = true := by kernel_rfl
theorem h100 : V.Holds Try.prog 10 a100 r100 := V.holds_of_ftells good1 regs follows (V.Shy.none rfl) tabOk e100
set_option maxRecDepth 1000000 in
theorem e101 : V.ftells Try.prog an1 tab 400 10 a101 r101 = true := by kernel_rfl
theorem h101 : V.Holds Try.prog 10 a101 r101 := V.holds_of_ftells good1 regs follows (V.Shy.none rfl) tabOk e101
set_option maxRecDepth 1000000 in
theorem e102 : V.ftells Try.prog an1 tab 400 10 a102 r102 = true := by kernel_rfl
theorem h102 : V.Holds Try.prog 10 a102 r102 := V.holds_of_ftells good1 regs follows (V.Shy.none rfl) tabOk e102
set_option maxRecDepth 1000000 in
theorem e103 : V.ftells Try.prog an1 tab 400 10 a103 r103 = true := by kernel_rfl
theorem h103 : V.Holds Try.prog 10 a103 r103 := V.holds_of_ftells good1 regs follows (V.Shy.none rfl) tabOk e103
set_option maxRecDepth 1000000 in
theorem e104 : V.ftells Try.prog an1 tab 400 10 a104 r104 = true := by kernel_rfl
theorem h104 : V.Holds Try.prog 10 a104 r104 := V.holds_of_ftells good1 regs follows (V.Shy.none rfl) tabOk e104
set_option maxRecDepth 1000000 in
theorem e105 : V.ftells Try.prog an1 tab 400 10 a105 r105 = true := by kernel_rfl
theorem h105 : V.Holds Try.prog 10 a105 r105 := V.holds_of_ftells good1 regs follows (V.Shy.none rfl) tabOk e105
set_option maxRecDepth 1000000 in
theorem e106 : V.ftells Try.prog an1 tab 400 8 a106 r106 = true := by kernel_rfl
theorem h106 : V.Holds Try.prog 8 a106 r106 := V.holds_of_ftells good1 regs follows (V.Shy.none rfl) tabOk e106
set_option maxRecDepth 1000000 in
theorem e107 : V.ftells Try.prog an1 tab 400 8 a107 r107 = true := by kernel_rfl
theorem h107 : V.Holds Try.prog 8 a107 r107 := V.holds_of_ftells good1 regs follows (V.Shy.none rfl) tabOk e107
set_option maxRecDepth 1000000 in
theorem e108 : V.ftells Try.prog an1 tab 400 8 a108 r108 = true := by kernel_rfl
theorem h108 : V.Holds Try.prog 8 a108 r108 := V.holds_of_ftells good1 regs follows (V.Shy.none rfl) tabOk e108
set_option maxRecDepth 1000000 in
theorem e109 : V.ftells Try.prog an1 tab 400 8 a109 r109 = true := by kernel_rfl
theorem h109 : V.Holds Try.prog 8 a109 r109 := V.holds_of_ftells good1 regs follows (V.Shy.none rfl) tabOk e109
set_option maxRecDepth 1000000 in
theorem e110 : V.ftells Try.prog an1 tab 400 10 a110 r110 = true := by kernel_rfl
theorem h110 : V.Holds Try.prog 10 a110 r110 := V.holds_of_ftells good1 regs follows (V.Shy.none rfl) tabOk e110
set_option maxRecDepth 1000000 in
theorem e111 : V.ftells Try.prog an1 tab 400 10 a111 r111 = true := by kernel_rfl
theorem h111 : V.Holds Try.prog 10 a111 r111 := V.holds_of_ftells good1 regs follows (V.Shy.none rfl) tabOk e111
set_option maxRecDepth 1000000 in
theorem e112 : V.ftells Try.prog an1 tab 400 10 a112 r112 = true := by kernel_rfl
theorem h112 : V.Holds Try.prog 10 a112 r112 := V.holds_of_ftells good1 regs follows (V.Shy.none rfl) tabOk e112
set_option maxRecDepth 1000000 in
theorem e113 : V.ftells Try.prog an1 tab 400 10 a113 r113 = true := by kernel_rfl
theorem h113 : V.Holds Try.prog 10 a113 r113 := V.holds_of_ftells good1 regs follows (V.Shy.none rfl) tabOk e113
set_option maxRecDepth 1000000 in
theorem e114 : V.ftells Try.prog an1 tab 400 10 a114 r114 = true := by kernel_rfl
theorem h114 : V.Holds Try.prog 10 a114 r114 := V.holds_of_ftells good1 regs follows (V.Shy.none rfl) tabOk e114
set_option maxRecDepth 1000000 in
theorem e115 : V.ftells Try.prog an1 tab 400 10 a115 r115 = true := by kernel_rfl
theorem h115 : V.Holds Try.prog 10 a115 r115 := V.holds_of_ftells good1 regs follows (V.Shy.none rfl) tabOk e115
set_option maxRecDepth 1000000 in
theorem e116 : V.ftells Try.prog an1 tab 400 10 a116 r116 = true := by kernel_rfl
theorem h116 : V.Holds Try.prog 10 a116 r116 := V.holds_of_ftells good1 regs follows (V.Shy.none rfl) tabOk e116
set_option maxRecDepth 1000000 in
theorem e117 : V.ftells Try.prog an1 tab 400 10 a117 r117 = true := by kernel_rfl
theorem h117 : V.Holds Try.prog 10 a117 r117 := V.holds_of_ftells good1 regs follows (V.Shy.none rfl) tabOk e117
set_option maxRecDepth 1000000 in
theorem e118 : V.ftells Try.prog an1 tab 400 8 a118 r118 = true := by kernel_rfl
theorem h118 : V.Holds Try.prog 8 a118 r118 := V.holds_of_ftells good1 regs follows (V.Shy.none rfl) tabOk e118
set_option maxRecDepth 1000000 in
theorem e119 : V.ftells Try.prog an1 tab 400 8 a119 r119 = true := by kernel_rfl
theorem h119 : V.Holds Try.prog 8 a119 r119 := V.holds_of_ftells good1 regs follows (V.Shy.none rfl) tabOk e119
set_option maxRecDepth 1000000 in
theorem e120 : V.ftells Try.prog an1 tab 400 8 a120 r120 = true := by kernel_rfl
theorem h120 : V.Holds Try.prog 8 a120 r120 := V.holds_of_ftells good1 regs follows (V.Shy.none rfl) tabOk e120
set_option maxRecDepth 1000000 in
theorem e121 : V.ftells Try.prog an1 tab 400 8 a121 r121 = true := by kernel_rfl
theorem h121 : V.Holds Try.prog 8 a121 r121 := V.holds_of_ftells good1 regs follows (V.Shy.none rfl) tabOk e121
set_option maxRecDepth 1000000 in
theorem e122 : V.ftells Try.prog an1 tab 400 10 a122 r122 = true := by kernel_rfl
theorem h122 : V.Holds Try.prog 10 a122 r122 := V.holds_of_ftells good1 regs follows (V.Shy.none rfl) tabOk e122
set_option maxRecDepth 1000000 in
theorem e123 : V.ftells Try.prog an1 tab 400 10 a123 r123 = true := by kernel_rfl
theorem h123 : V.Holds Try.prog 10 a123 r123 := V.holds_of_ftells good1 regs follows (V.Shy.none rfl) tabOk e123
set_option maxRecDepth 1000000 in
theorem e124 : V.ftells Try.prog an1 tab 400 10 a124 r124 = true := by kernel_rfl
theorem h124 : V.Holds Try.prog 10 a124 r124 := V.holds_of_ftells good1 regs follows (V.Shy.none rfl) tabOk e124
set_option maxRecDepth 1000000 in
theorem e125 : V.ftells Try.prog an1 tab 400 10 a125 r125 = true := by kernel_rfl
theorem h125 : V.Holds Try.prog 10 a125 r125 := V.holds_of_ftells good1 regs follows (V.Shy.none rfl) tabOk e125
set_option maxRecDepth 1000000 in
theorem e126 : V.ftells Try.prog an1 tab 400 10 a126 r126 = true := by kernel_rfl
theorem h126 : V.Holds Try.prog 10 a126 r126 := V.holds_of_ftells good1 regs follows (V.Shy.none rfl) tabOk e126
set_option maxRecDepth 1000000 in
theorem e127 : V.ftells Try.prog an1 tab 400 10 a127 r127 = true := by kernel_rfl
theorem h127 : V.Holds Try.prog 10 a127 r127 := V.holds_of_ftells good1 regs follows (V.Shy.none rfl) tabOk e127
set_option maxRecDepth 1000000 in
theorem e128 : V.ftells Try.prog an1 tab 400 10 a128 r128 = true := by kernel_rfl
theorem h128 : V.Holds Try.prog 10 a128 r128 := V.holds_of_ftells good1 regs follows (V.Shy.none rfl) tabOk e128
set_option maxRecDepth 1000000 in
theorem e129 : V.ftells Try.prog an1 tab 400 10 a129 r129 = true := by kernel_rfl
theorem h129 : V.Holds Try.prog 10 a129 r129 := V.holds_of_ftells good1 regs follows (V.Shy.none rfl) tabOk e129
set_option maxRecDepth 1000000 in
theorem e130 : V.ftells Try.prog an1 tab 400 10 a130 r130 = true := by kernel_rfl
theorem h130 : V.Holds Try.prog 10 a130 r130 := V.holds_of_ftells good1 regs follows (V.Shy.none rfl) tabOk e130
set_option maxRecDepth 1000000 in
theorem e131 : V.ftells Try.prog an1 tab 400 8 a131 r131 = true := by kernel_rfl
theorem h131 : V.Holds Try.prog 8 a131 r131 := V.holds_of_ftells good1 regs follows (V.Shy.none rfl) tabOk e131
set_option maxRecDepth 1000000 in
theorem e132 : V.ftells Try.prog an1 tab 400 8 a132 r132 = true := by kernel_rfl
theorem h132 : V.Holds Try.prog 8 a132 r132 := V.holds_of_ftells good1 regs follows (V.Shy.none rfl) tabOk e132
set_option maxRecDepth 1000000 in
theorem e133 : V.ftells Try.prog an1 tab 400 8 a133 r133 = true := by kernel_rfl
theorem h133 : V.Holds Try.prog 8 a133 r133 := V.holds_of_ftells good1 regs follows (V.Shy.none rfl) tabOk e133
def t2 : V.Tbl := [(21, [(a0, r0), (a1, r1), (a2, r2), (a3, r3), (a5, r5), (a8, r8), (a12, r12), (a17, r17), (a23, r23), (a30, r30), (a38, r38)]), (17, [(a4, r4), (a6, r6), (a9, r9), (a13, r13), (a18, r18), (a24, r24), (a31, r31), (a39, r39)]), (23, [(a7, r7), (a10, r10), (a11, r11), (a14, r14), (a15, r15), (a16, r16), (a19, r19), (a20, r20), (a21, r21), (a22, r22), (a25, r25), (a26, r26), (a27, r27), (a28, r28), (a29, r29), (a32, r32), (a33, r33), (a34, r34), (a35, r35), (a36, r36), (a37, r37), (a40, r40), (a41, r41), (a42, r42), (a43, r43), (a44, r44), (a45, r45), (a46, r46)]), (8, [(a47, r47), (a48, r48), (a49, r49), (a50, r50), (a51, r51), (a52, r52), (a53, r53), (a55, r55), (a56, r56), (a57, r57), (a58, r58), (a61, r61), (a62, r62), (a63, r63), (a64, r64), (a68, r68), (a69, r69), (a70, r70), (a71, r71), (a76, r76), (a77, r77), (a78, r78), (a79, r79), (a85, r85), (a86, r86), (a87, r87), (a88, r88), (a95, r95), (a96, r96), (a97, r97), (a98, r98), (a106, r106), (a107, r107), (a108, r108), (a109, r109), (a118, r118), (a119, r119), (a120, r120), (a121, r121), (a131, r131), (a132, r132), (a133, r133)]), (10, [(a54, r54), (a59, r59), (a60, r60), (a65, r65), (a66, r66), (a67, r67), (a72, r72), (a73, r73), (a74, r74), (a75, r75), (a80, r80), (a81, r81), (a82, r82), (a83, r83), (a84, r84), (a89, r89), (a90, r90), (a91, r91), (a92, r92), (a93, r93), (a94, r94), (a99, r99), (a100, r100), (a101, r101), (a102, r102), (a103, r103), (a104, r104), (a105, r105), (a110, r110), (a111, r111), (a112, r112), (a113, r113), (a114, r114), (a115, r115), (a116, r116), (a117, r117), (a122, r122), (a123, r123), (a124, r124), (a125, r125), (a126, r126), (a127, r127), (a128, r128), (a129, r129), (a130, r130)])]
theorem to2 : V.TblOk Try.prog t2 := (V.TblOk.cons (V.RowOk.cons h0 (V.RowOk.cons h1 (V.RowOk.cons h2 (V.RowOk.cons h3 (V.RowOk.cons h5 (V.RowOk.cons h8 (V.RowOk.cons h12 (V.RowOk.cons h17 (V.RowOk.cons h23 (V.RowOk.cons h30 (V.RowOk.cons h38 V.RowOk.nil))))))))))) (V.TblOk.cons (V.RowOk.cons h4 (V.RowOk.cons h6 (V.RowOk.cons h9 (V.RowOk.cons h13 (V.RowOk.cons h18 (V.RowOk.cons h24 (V.RowOk.cons h31 (V.RowOk.cons h39 V.RowOk.nil)))))))) (V.TblOk.cons (V.RowOk.cons h7 (V.RowOk.cons h10 (V.RowOk.cons h11 (V.RowOk.cons h14 (V.RowOk.cons h15 (V.RowOk.cons h16 (V.RowOk.cons h19 (V.RowOk.cons h20 (V.RowOk.cons h21 (V.RowOk.cons h22 (V.RowOk.cons h25 (V.RowOk.cons h26 (V.RowOk.cons h27 (V.RowOk.cons h28 (V.RowOk.cons h29 (V.RowOk.cons h32 (V.RowOk.cons h33 (V.RowOk.cons h34 (V.RowOk.cons h35 (V.RowOk.cons h36 (V.RowOk.cons h37 (V.RowOk.cons h40 (V.RowOk.cons h41 (V.RowOk.cons h42 (V.RowOk.cons h43 (V.RowOk.cons h44 (V.RowOk.cons h45 (V.RowOk.cons h46 V.RowOk.nil)))))))))))))))))))))))))))) (V.TblOk.cons (V.RowOk.cons h47 (V.RowOk.cons h48 (V.RowOk.cons h49 (V.RowOk.cons h50 (V.RowOk.cons h51 (V.RowOk.cons h52 (V.RowOk.cons h53 (V.RowOk.cons h55 (V.RowOk.cons h56 (V.RowOk.cons h57 (V.RowOk.cons h58 (V.RowOk.cons h61 (V.RowOk.cons h62 (V.RowOk.cons h63 (V.RowOk.cons h64 (V.RowOk.cons h68 (V.RowOk.cons h69 (V.RowOk.cons h70 (V.RowOk.cons h71 (V.RowOk.cons h76 (V.RowOk.cons h77 (V.RowOk.cons h78 (V.RowOk.cons h79 (V.RowOk.cons h85 (V.RowOk.cons h86 (V.RowOk.cons h87 (V.RowOk.cons h88 (V.RowOk.cons h95 (V.RowOk.cons h96 (V.RowOk.cons h97 (V.RowOk.cons h98 (V.RowOk.cons h106 (V.RowOk.cons h107 (V.RowOk.cons h108 (V.RowOk.cons h109 (V.RowOk.cons h118 (V.RowOk.cons h119 (V.RowOk.cons h120 (V.RowOk.cons h121 (V.RowOk.cons h131 (V.RowOk.cons h132 (V.RowOk.cons h133 V.RowOk.nil)))))))))))))))))))))))))))))))))))))))))) (V.TblOk.cons (V.RowOk.cons h54 (V.RowOk.cons h59 (V.RowOk.cons h60 (V.RowOk.cons h65 (V.RowOk.cons h66 (V.RowOk.cons h67 (V.RowOk.cons h72 (V.RowOk.cons h73 (V.RowOk.cons h74 (V.RowOk.cons h75 (V.RowOk.cons h80 (V.RowOk.cons h81 (V.RowOk.cons h82 (V.RowOk.cons h83 (V.RowOk.cons h84 (V.RowOk.cons h89 (V.RowOk.cons h90 (V.RowOk.cons h91 (V.RowOk.cons h92 (V.RowOk.cons h93 (V.RowOk.cons h94 (V.RowOk.cons h99 (V.RowOk.cons h100 (V.RowOk.cons h101 (V.RowOk.cons h102 (V.RowOk.cons h103 (V.RowOk.cons h104 (V.RowOk.cons h105 (V.RowOk.cons h110 (V.RowOk.cons h111 (V.RowOk.cons h112 (V.RowOk.cons h113 (V.RowOk.cons h114 (V.RowOk.cons h115 (V.RowOk.cons h116 (V.RowOk.cons h117 (V.RowOk.cons h122 (V.RowOk.cons h123 (V.RowOk.cons h124 (V.RowOk.cons h125 (V.RowOk.cons h126 (V.RowOk.cons h127 (V.RowOk.cons h128 (V.RowOk.cons h129 (V.RowOk.cons h130 V.RowOk.nil))))))))))))))))))))))))))))))))))))))))))))) V.TblOk.nil)))))
def an2 : V.An := { io := fun f => [6,7].contains f, ownRes := fun f => [].contains f, spec := V.inTbl t2, call := V.cloneOf clones }
theorem good2 : V.Good Try.prog an2 := ⟨named, V.spec_of_tbl to2, (fun _ _ _ _ h => nomatch h), V.call_clones cloneOk rfl⟩
set_option maxRecDepth 1000000 in
theorem e134 : V.ftells Try.prog an2 tab 400 5 a134 r134 = true := by kernel_rfl
theorem h134 : V.Holds Try.prog 5 a134 r134 := V.holds_of_ftells good2 regs follows (V.Shy.none rfl) tabOk e134
def t3 : V.Tbl := [(21, [(a0, r0), (a1, r1), (a2, r2), (a3, r3), (a5, r5), (a8, r8), (a12, r12), (a17, r17), (a23, r23), (a30, r30), (a38, r38)]), (17, [(a4, r4), (a6, r6), (a9, r9), (a13, r13), (a18, r18), (a24, r24), (a31, r31), (a39, r39)]), (23, [(a7, r7), (a10, r10), (a11, r11), (a14, r14), (a15, r15), (a16, r16), (a19, r19), (a20, r20), (a21, r21), (a22, r22), (a25, r25), (a26, r26), (a27, r27), (a28, r28), (a29, r29), (a32, r32), (a33, r33), (a34, r34), (a35, r35), (a36, r36), (a37, r37), (a40, r40), (a41, r41), (a42, r42), (a43, r43), (a44, r44), (a45, r45), (a46, r46)]), (8, [(a47, r47), (a48, r48), (a49, r49), (a50, r50), (a51, r51), (a52, r52), (a53, r53), (a55, r55), (a56, r56), (a57, r57), (a58, r58), (a61, r61), (a62, r62), (a63, r63), (a64, r64), (a68, r68), (a69, r69), (a70, r70), (a71, r71), (a76, r76), (a77, r77), (a78, r78), (a79, r79), (a85, r85), (a86, r86), (a87, r87), (a88, r88), (a95, r95), (a96, r96), (a97, r97), (a98, r98), (a106, r106), (a107, r107), (a108, r108), (a109, r109), (a118, r118), (a119, r119), (a120, r120), (a121, r121), (a131, r131), (a132, r132), (a133, r133)]), (10, [(a54, r54), (a59, r59), (a60, r60), (a65, r65), (a66, r66), (a67, r67), (a72, r72), (a73, r73), (a74, r74), (a75, r75), (a80, r80), (a81, r81), (a82, r82), (a83, r83), (a84, r84), (a89, r89), (a90, r90), (a91, r91), (a92, r92), (a93, r93), (a94, r94), (a99, r99), (a100, r100), (a101, r101), (a102, r102), (a103, r103), (a104, r104), (a105, r105), (a110, r110), (a111, r111), (a112, r112), (a113, r113), (a114, r114), (a115, r115), (a116, r116), (a117, r117), (a122, r122), (a123, r123), (a124, r124), (a125, r125), (a126, r126), (a127, r127), (a128, r128), (a129, r129), (a130, r130)]), (5, [(a134, r134)])]
theorem to3 : V.TblOk Try.prog t3 := (V.TblOk.cons (V.RowOk.cons h0 (V.RowOk.cons h1 (V.RowOk.cons h2 (V.RowOk.cons h3 (V.RowOk.cons h5 (V.RowOk.cons h8 (V.RowOk.cons h12 (V.RowOk.cons h17 (V.RowOk.cons h23 (V.RowOk.cons h30 (V.RowOk.cons h38 V.RowOk.nil))))))))))) (V.TblOk.cons (V.RowOk.cons h4 (V.RowOk.cons h6 (V.RowOk.cons h9 (V.RowOk.cons h13 (V.RowOk.cons h18 (V.RowOk.cons h24 (V.RowOk.cons h31 (V.RowOk.cons h39 V.RowOk.nil)))))))) (V.TblOk.cons (V.RowOk.cons h7 (V.RowOk.cons h10 (V.RowOk.cons h11 (V.RowOk.cons h14 (V.RowOk.cons h15 (V.RowOk.cons h16 (V.RowOk.cons h19 (V.RowOk.cons h20 (V.RowOk.cons h21 (V.RowOk.cons h22 (V.RowOk.cons h25 (V.RowOk.cons h26 (V.RowOk.cons h27 (V.RowOk.cons h28 (V.RowOk.cons h29 (V.RowOk.cons h32 (V.RowOk.cons h33 (V.RowOk.cons h34 (V.RowOk.cons h35 (V.RowOk.cons h36 (V.RowOk.cons h37 (V.RowOk.cons h40 (V.RowOk.cons h41 (V.RowOk.cons h42 (V.RowOk.cons h43 (V.RowOk.cons h44 (V.RowOk.cons h45 (V.RowOk.cons h46 V.RowOk.nil)))))))))))))))))))))))))))) (V.TblOk.cons (V.RowOk.cons h47 (V.RowOk.cons h48 (V.RowOk.cons h49 (V.RowOk.cons h50 (V.RowOk.cons h51 (V.RowOk.cons h52 (V.RowOk.cons h53 (V.RowOk.cons h55 (V.RowOk.cons h56 (V.RowOk.cons h57 (V.RowOk.cons h58 (V.RowOk.cons h61 (V.RowOk.cons h62 (V.RowOk.cons h63 (V.RowOk.cons h64 (V.RowOk.cons h68 (V.RowOk.cons h69 (V.RowOk.cons h70 (V.RowOk.cons h71 (V.RowOk.cons h76 (V.RowOk.cons h77 (V.RowOk.cons h78 (V.RowOk.cons h79 (V.RowOk.cons h85 (V.RowOk.cons h86 (V.RowOk.cons h87 (V.RowOk.cons h88 (V.RowOk.cons h95 (V.RowOk.cons h96 (V.RowOk.cons h97 (V.RowOk.cons h98 (V.RowOk.cons h106 (V.RowOk.cons h107 (V.RowOk.cons h108 (V.RowOk.cons h109 (V.RowOk.cons h118 (V.RowOk.cons h119 (V.RowOk.cons h120 (V.RowOk.cons h121 (V.RowOk.cons h131 (V.RowOk.cons h132 (V.RowOk.cons h133 V.RowOk.nil)))))))))))))))))))))))))))))))))))))))))) (V.TblOk.cons (V.RowOk.cons h54 (V.RowOk.cons h59 (V.RowOk.cons h60 (V.RowOk.cons h65 (V.RowOk.cons h66 (V.RowOk.cons h67 (V.RowOk.cons h72 (V.RowOk.cons h73 (V.RowOk.cons h74 (V.RowOk.cons h75 (V.RowOk.cons h80 (V.RowOk.cons h81 (V.RowOk.cons h82 (V.RowOk.cons h83 (V.RowOk.cons h84 (V.RowOk.cons h89 (V.RowOk.cons h90 (V.RowOk.cons h91 (V.RowOk.cons h92 (V.RowOk.cons h93 (V.RowOk.cons h94 (V.RowOk.cons h99 (V.RowOk.cons h100 (V.RowOk.cons h101 (V.RowOk.cons h102 (V.RowOk.cons h103 (V.RowOk.cons h104 (V.RowOk.cons h105 (V.RowOk.cons h110 (V.RowOk.cons h111 (V.RowOk.cons h112 (V.RowOk.cons h113 (V.RowOk.cons h114 (V.RowOk.cons h115 (V.RowOk.cons h116 (V.RowOk.cons h117 (V.RowOk.cons h122 (V.RowOk.cons h123 (V.RowOk.cons h124 (V.RowOk.cons h125 (V.RowOk.cons h126 (V.RowOk.cons h127 (V.RowOk.cons h128 (V.RowOk.cons h129 (V.RowOk.cons h130 V.RowOk.nil))))))))))))))))))))))))))))))))))))))))))))) (V.TblOk.cons (V.RowOk.cons h134 V.RowOk.nil) V.TblOk.nil))))))
def an3 : V.An := { io := fun f => [6,7].contains f, ownRes := fun f => [].contains f, spec := V.inTbl t3, call := V.cloneOf clones }
theorem good3 : V.Good Try.prog an3 := ⟨named, V.spec_of_tbl to3, (fun _ _ _ _ h => nomatch h), V.call_clones cloneOk rfl⟩
theorem tno : V.tblNo t3 = true := by kernel_rfl
def tb : V.Tbl := t3
theorem tbOk : V.TblOk Try.prog tb := to3
theorem tbNo : V.tblNo tb = true := tno
end Go.Proofs.Ytfkpjehjkhofhaa.Say
