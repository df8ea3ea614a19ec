/- InhabitRows: what V tells of the law, its cases one by one: 8. -/
import Derived.Test.YtfkpjehjkhofhaaInhBase
set_option linter.unusedVariables false
namespace Go.Proofs.Ytfkpjehjkhofhaa.Say
open Go Go.RowKit
open V (D)
def sg8 (a0 : Int) : Nat → V.D
  | 0 => .int .u8 a0
  | _ => .nil
def fa8 : List V.Fact := [.ari .rem (.sym 0) (.int .u8 10) (.int .u8 8)]
theorem fo8 (a0 : Int) (h : a0 % 10 = 8) (h0 : 0 ≤ a0) : ∀ f ∈ fa8, @V.Fact.ok (V.sigOf (sg8 a0)) Try.prog f := by
  letI : V.Sig := V.sigOf (sg8 a0)
  intro f hf
  simp only [fa8, List.mem_cons, List.not_mem_nil, or_false] at hf
  subst hf
  refine V.oka (k := .u8) (m := a0) (n := 10) (r := 8) rfl rfl ?_ rfl
  simp only [V.ariI]
  rw [if_neg (by omega), Int.tmod_eq_emod_of_nonneg h0, h]
def ac8 : V.An := { io := fun f => [6,7].contains f, ownRes := fun _ => false, spec := V.inTbl tb, call := V.cloneOf clones, orc := V.orcOf fa8 }
set_option maxRecDepth 1000000 in
theorem run8_f_f : V.yes (V.fcall Try.prog ac8 tab 400 4 [.dat (.sym 0), .dat (.bool false), .dat (.bool false)] [] 0) = true := by kernel_rfl
theorem case8_f_f (a0 : Int) (W : World) (h : a0 % 10 = 8) (h0 : 0 ≤ a0) : Calls Try.prog 4 #[.int .u8 a0, .bool false, .bool false] W (fun e W' => e = .returned (.bool true) ∧ Below W.heap.size W W') := by
  letI : V.Sig := V.sigOf (sg8 a0)
  exact V.law_fcall (an := ac8) ⟨named, V.spec_of_tbl (V.TblOk.any tbNo tbOk), V.orc_of (fo8 a0 h h0) rfl, V.call_clones cloneOk rfl⟩ regs follows (V.shy_orcOf rfl) tabOk run8_f_f (V.args_cons (.sym 0 _ rfl (.int _ _)) (V.args_cons (.bool _) (V.args_cons (.bool _) V.args_nil)))
set_option maxRecDepth 1000000 in
theorem run8_f_t : V.yes (V.fcall Try.prog ac8 tab 400 4 [.dat (.sym 0), .dat (.bool false), .dat (.bool true)] [] 0) = true := by kernel_rfl
theorem case8_f_t (a0 : Int) (W : World) (h : a0 % 10 = 8) (h0 : 0 ≤ a0) : Calls Try.prog 4 #[.int .u8 a0, .bool false, .bool true] W (fun e W' => e = .returned (.bool true) ∧ Below W.heap.size W W') := by
  letI : V.Sig := V.sigOf (sg8 a0)
  exact V.law_fcall (an := ac8) ⟨named, V.spec_of_tbl (V.TblOk.any tbNo tbOk), V.orc_of (fo8 a0 h h0) rfl, V.call_clones cloneOk rfl⟩ regs follows (V.shy_orcOf rfl) tabOk run8_f_t (V.args_cons (.sym 0 _ rfl (.int _ _)) (V.args_cons (.bool _) (V.args_cons (.bool _) V.args_nil)))
set_option maxRecDepth 1000000 in
theorem run8_t_f : V.yes (V.fcall Try.prog ac8 tab 400 4 [.dat (.sym 0), .dat (.bool true), .dat (.bool false)] [] 0) = true := by kernel_rfl
theorem case8_t_f (a0 : Int) (W : World) (h : a0 % 10 = 8) (h0 : 0 ≤ a0) : Calls Try.prog 4 #[.int .u8 a0, .bool true, .bool false] W (fun e W' => e = .returned (.bool true) ∧ Below W.heap.size W W') := by
  letI : V.Sig := V.sigOf (sg8 a0)
  exact V.law_fcall (an := ac8) ⟨named, V.spec_of_tbl (V.TblOk.any tbNo tbOk), V.orc_of (fo8 a0 h h0) rfl, V.call_clones cloneOk rfl⟩ regs follows (V.shy_orcOf rfl) tabOk run8_t_f (V.args_cons (.sym 0 _ rfl (.int _ _)) (V.args_cons (.bool _) (V.args_cons (.bool _) V.args_nil)))
set_option maxRecDepth 1000000 in
theorem run8_t_t : V.yes (V.fcall Try.prog ac8 tab 400 4 [.dat (.sym 0), .dat (.bool true), .dat (.bool true)] [] 0) = true := by kernel_rfl
theorem case8_t_t (a0 : Int) (W : World) (h : a0 % 10 = 8) (h0 : 0 ≤ a0) : Calls Try.prog 4 #[.int .u8 a0, .bool true, .bool true] W (fun e W' => e = .returned (.bool true) ∧ Below W.heap.size W W') := by
  letI : V.Sig := V.sigOf (sg8 a0)
  exact V.law_fcall (an := ac8) ⟨named, V.spec_of_tbl (V.TblOk.any tbNo tbOk), V.orc_of (fo8 a0 h h0) rfl, V.call_clones cloneOk rfl⟩ regs follows (V.shy_orcOf rfl) tabOk run8_t_t (V.args_cons (.sym 0 _ rfl (.int _ _)) (V.args_cons (.bool _) (V.args_cons (.bool _) V.args_nil)))
end Go.Proofs.Ytfkpjehjkhofhaa.Say
