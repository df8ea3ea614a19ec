/- InhabitRows: what V tells of the law, its cases one by one: 0,1,2,3,4,5. -/
import Derived.Test.YtfkpjehjkhofhaaInhBase
set_option linter.unusedVariables false
namespace Go.Proofs.Ytfkpjehjkhofhaa.Say
open Go Go.RowKit
open V (D)
def sg0 (a0 : Int) : Nat → V.D
  | 0 => .int .u8 a0
  | _ => .nil
def fa0 : List V.Fact := [.ari .rem (.sym 0) (.int .u8 10) (.int .u8 0)]
theorem fo0 (a0 : Int) (h : a0 % 10 = 0) (h0 : 0 ≤ a0) : ∀ f ∈ fa0, @V.Fact.ok (V.sigOf (sg0 a0)) Try.prog f := by
  letI : V.Sig := V.sigOf (sg0 a0)
  intro f hf
  simp only [fa0, List.mem_cons, List.not_mem_nil, or_false] at hf
  subst hf
  refine V.oka (k := .u8) (m := a0) (n := 10) (r := 0) rfl rfl ?_ rfl
  simp only [V.ariI]
  rw [if_neg (by omega), Int.tmod_eq_emod_of_nonneg h0, h]
def ac0 : V.An := { io := fun f => [6,7].contains f, ownRes := fun _ => false, spec := V.inTbl tb, call := V.cloneOf clones, orc := V.orcOf fa0 }
set_option maxRecDepth 1000000 in
theorem run0_f_f : V.yes (V.fcall Try.prog ac0 tab 400 4 [.dat (.sym 0), .dat (.bool false), .dat (.bool false)] [] 0) = true := by kernel_rfl
theorem case0_f_f (a0 : Int) (W : World) (h : a0 % 10 = 0) (h0 : 0 ≤ a0) : Calls Try.prog 4 #[.int .u8 a0, .bool false, .bool false] W (fun e W' => e = .returned (.bool true) ∧ Below W.heap.size W W') := by
  letI : V.Sig := V.sigOf (sg0 a0)
  exact V.law_fcall (an := ac0) ⟨named, V.spec_of_tbl (V.TblOk.any tbNo tbOk), V.orc_of (fo0 a0 h h0) rfl, V.call_clones cloneOk rfl⟩ regs follows (V.shy_orcOf rfl) tabOk run0_f_f (V.args_cons (.sym 0 _ rfl (.int _ _)) (V.args_cons (.bool _) (V.args_cons (.bool _) V.args_nil)))
set_option maxRecDepth 1000000 in
theorem run0_f_t : V.yes (V.fcall Try.prog ac0 tab 400 4 [.dat (.sym 0), .dat (.bool false), .dat (.bool true)] [] 0) = true := by kernel_rfl
theorem case0_f_t (a0 : Int) (W : World) (h : a0 % 10 = 0) (h0 : 0 ≤ a0) : Calls Try.prog 4 #[.int .u8 a0, .bool false, .bool true] W (fun e W' => e = .returned (.bool true) ∧ Below W.heap.size W W') := by
  letI : V.Sig := V.sigOf (sg0 a0)
  exact V.law_fcall (an := ac0) ⟨named, V.spec_of_tbl (V.TblOk.any tbNo tbOk), V.orc_of (fo0 a0 h h0) rfl, V.call_clones cloneOk rfl⟩ regs follows (V.shy_orcOf rfl) tabOk run0_f_t (V.args_cons (.sym 0 _ rfl (.int _ _)) (V.args_cons (.bool _) (V.args_cons (.bool _) V.args_nil)))
set_option maxRecDepth 1000000 in
theorem run0_t_f : V.yes (V.fcall Try.prog ac0 tab 400 4 [.dat (.sym 0), .dat (.bool true), .dat (.bool false)] [] 0) = true := by kernel_rfl
theorem case0_t_f (a0 : Int) (W : World) (h : a0 % 10 = 0) (h0 : 0 ≤ a0) : Calls Try.prog 4 #[.int .u8 a0, .bool true, .bool false] W (fun e W' => e = .returned (.bool true) ∧ Below W.heap.size W W') := by
  letI : V.Sig := V.sigOf (sg0 a0)
  exact V.law_fcall (an := ac0) ⟨named, V.spec_of_tbl (V.TblOk.any tbNo tbOk), V.orc_of (fo0 a0 h h0) rfl, V.call_clones cloneOk rfl⟩ regs follows (V.shy_orcOf rfl) tabOk run0_t_f (V.args_cons (.sym 0 _ rfl (.int _ _)) (V.args_cons (.bool _) (V.args_cons (.bool _) V.args_nil)))
set_option maxRecDepth 1000000 in
theorem run0_t_t : V.yes (V.fcall Try.prog ac0 tab 400 4 [.dat (.sym 0), .dat (.bool true), .dat (.bool true)] [] 0) = true := by kernel_rfl
theorem case0_t_t (a0 : Int) (W : World) (h : a0 % 10 = 0) (h0 : 0 ≤ a0) : Calls Try.prog 4 #[.int .u8 a0, .bool true, .bool true] W (fun e W' => e = .returned (.bool true) ∧ Below W.heap.size W W') := by
  letI : V.Sig := V.sigOf (sg0 a0)
  exact V.law_fcall (an := ac0) ⟨named, V.spec_of_tbl (V.TblOk.any tbNo tbOk), V.orc_of (fo0 a0 h h0) rfl, V.call_clones cloneOk rfl⟩ regs follows (V.shy_orcOf rfl) tabOk run0_t_t (V.args_cons (.sym 0 _ rfl (.int _ _)) (V.args_cons (.bool _) (V.args_cons (.bool _) V.args_nil)))
def sg1 (a0 : Int) : Nat → V.D
  | 0 => .int .u8 a0
  | _ => .nil
def fa1 : List V.Fact := [.ari .rem (.sym 0) (.int .u8 10) (.int .u8 1)]
theorem fo1 (a0 : Int) (h : a0 % 10 = 1) (h0 : 0 ≤ a0) : ∀ f ∈ fa1, @V.Fact.ok (V.sigOf (sg1 a0)) Try.prog f := by
  letI : V.Sig := V.sigOf (sg1 a0)
  intro f hf
  simp only [fa1, List.mem_cons, List.not_mem_nil, or_false] at hf
  subst hf
  refine V.oka (k := .u8) (m := a0) (n := 10) (r := 1) rfl rfl ?_ rfl
  simp only [V.ariI]
  rw [if_neg (by omega), Int.tmod_eq_emod_of_nonneg h0, h]
def ac1 : V.An := { io := fun f => [6,7].contains f, ownRes := fun _ => false, spec := V.inTbl tb, call := V.cloneOf clones, orc := V.orcOf fa1 }
set_option maxRecDepth 1000000 in
theorem run1_f_f : V.yes (V.fcall Try.prog ac1 tab 400 4 [.dat (.sym 0), .dat (.bool false), .dat (.bool false)] [] 0) = true := by kernel_rfl
theorem case1_f_f (a0 : Int) (W : World) (h : a0 % 10 = 1) (h0 : 0 ≤ a0) : Calls Try.prog 4 #[.int .u8 a0, .bool false, .bool false] W (fun e W' => e = .returned (.bool true) ∧ Below W.heap.size W W') := by
  letI : V.Sig := V.sigOf (sg1 a0)
  exact V.law_fcall (an := ac1) ⟨named, V.spec_of_tbl (V.TblOk.any tbNo tbOk), V.orc_of (fo1 a0 h h0) rfl, V.call_clones cloneOk rfl⟩ regs follows (V.shy_orcOf rfl) tabOk run1_f_f (V.args_cons (.sym 0 _ rfl (.int _ _)) (V.args_cons (.bool _) (V.args_cons (.bool _) V.args_nil)))
set_option maxRecDepth 1000000 in
theorem run1_f_t : V.yes (V.fcall Try.prog ac1 tab 400 4 [.dat (.sym 0), .dat (.bool false), .dat (.bool true)] [] 0) = true := by kernel_rfl
theorem case1_f_t (a0 : Int) (W : World) (h : a0 % 10 = 1) (h0 : 0 ≤ a0) : Calls Try.prog 4 #[.int .u8 a0, .bool false, .bool true] W (fun e W' => e = .returned (.bool true) ∧ Below W.heap.size W W') := by
  letI : V.Sig := V.sigOf (sg1 a0)
  exact V.law_fcall (an := ac1) ⟨named, V.spec_of_tbl (V.TblOk.any tbNo tbOk), V.orc_of (fo1 a0 h h0) rfl, V.call_clones cloneOk rfl⟩ regs follows (V.shy_orcOf rfl) tabOk run1_f_t (V.args_cons (.sym 0 _ rfl (.int _ _)) (V.args_cons (.bool _) (V.args_cons (.bool _) V.args_nil)))
set_option maxRecDepth 1000000 in
theorem run1_t_f : V.yes (V.fcall Try.prog ac1 tab 400 4 [.dat (.sym 0), .dat (.bool true), .dat (.bool false)] [] 0) = true := by kernel_rfl
theorem case1_t_f (a0 : Int) (W : World) (h : a0 % 10 = 1) (h0 : 0 ≤ a0) : Calls Try.prog 4 #[.int .u8 a0, .bool true, .bool false] W (fun e W' => e = .returned (.bool true) ∧ Below W.heap.size W W') := by
  letI : V.Sig := V.sigOf (sg1 a0)
  exact V.law_fcall (an := ac1) ⟨named, V.spec_of_tbl (V.TblOk.any tbNo tbOk), V.orc_of (fo1 a0 h h0) rfl, V.call_clones cloneOk rfl⟩ regs follows (V.shy_orcOf rfl) tabOk run1_t_f (V.args_cons (.sym 0 _ rfl (.int _ _)) (V.args_cons (.bool _) (V.args_cons (.bool _) V.args_nil)))
set_option maxRecDepth 1000000 in
theorem run1_t_t : V.yes (V.fcall Try.prog ac1 tab 400 4 [.dat (.sym 0), .dat (.bool true), .dat (.bool true)] [] 0) = true := by kernel_rfl
theorem case1_t_t (a0 : Int) (W : World) (h : a0 % 10 = 1) (h0 : 0 ≤ a0) : Calls Try.prog 4 #[.int .u8 a0, .bool true, .bool true] W (fun e W' => e = .returned (.bool true) ∧ Below W.heap.size W W') := by
  letI : V.Sig := V.sigOf (sg1 a0)
  exact V.law_fcall (an := ac1) ⟨named, V.spec_of_tbl (V.TblOk.any tbNo tbOk), V.orc_of (fo1 a0 h h0) rfl, V.call_clones cloneOk rfl⟩ regs follows (V.shy_orcOf rfl) tabOk run1_t_t (V.args_cons (.sym 0 _ rfl (.int _ _)) (V.args_cons (.bool _) (V.args_cons (.bool _) V.args_nil)))
def sg2 (a0 : Int) : Nat → V.D
  | 0 => .int .u8 a0
  | _ => .nil
def fa2 : List V.Fact := [.ari .rem (.sym 0) (.int .u8 10) (.int .u8 2)]
theorem fo2 (a0 : Int) (h : a0 % 10 = 2) (h0 : 0 ≤ a0) : ∀ f ∈ fa2, @V.Fact.ok (V.sigOf (sg2 a0)) Try.prog f := by
  letI : V.Sig := V.sigOf (sg2 a0)
  intro f hf
  simp only [fa2, List.mem_cons, List.not_mem_nil, or_false] at hf
  subst hf
  refine V.oka (k := .u8) (m := a0) (n := 10) (r := 2) rfl rfl ?_ rfl
  simp only [V.ariI]
  rw [if_neg (by omega), Int.tmod_eq_emod_of_nonneg h0, h]
def ac2 : V.An := { io := fun f => [6,7].contains f, ownRes := fun _ => false, spec := V.inTbl tb, call := V.cloneOf clones, orc := V.orcOf fa2 }
set_option maxRecDepth 1000000 in
theorem run2_f_f : V.yes (V.fcall Try.prog ac2 tab 400 4 [.dat (.sym 0), .dat (.bool false), .dat (.bool false)] [] 0) = true := by kernel_rfl
theorem case2_f_f (a0 : Int) (W : World) (h : a0 % 10 = 2) (h0 : 0 ≤ a0) : Calls Try.prog 4 #[.int .u8 a0, .bool false, .bool false] W (fun e W' => e = .returned (.bool true) ∧ Below W.heap.size W W') := by
  letI : V.Sig := V.sigOf (sg2 a0)
  exact V.law_fcall (an := ac2) ⟨named, V.spec_of_tbl (V.TblOk.any tbNo tbOk), V.orc_of (fo2 a0 h h0) rfl, V.call_clones cloneOk rfl⟩ regs follows (V.shy_orcOf rfl) tabOk run2_f_f (V.args_cons (.sym 0 _ rfl (.int _ _)) (V.args_cons (.bool _) (V.args_cons (.bool _) V.args_nil)))
set_option maxRecDepth 1000000 in
theorem run2_f_t : V.yes (V.fcall Try.prog ac2 tab 400 4 [.dat (.sym 0), .dat (.bool false), .dat (.bool true)] [] 0) = true := by kernel_rfl
theorem case2_f_t (a0 : Int) (W : World) (h : a0 % 10 = 2) (h0 : 0 ≤ a0) : Calls Try.prog 4 #[.int .u8 a0, .bool false, .bool true] W (fun e W' => e = .returned (.bool true) ∧ Below W.heap.size W W') := by
  letI : V.Sig := V.sigOf (sg2 a0)
  exact V.law_fcall (an := ac2) ⟨named, V.spec_of_tbl (V.TblOk.any tbNo tbOk), V.orc_of (fo2 a0 h h0) rfl, V.call_clones cloneOk rfl⟩ regs follows (V.shy_orcOf rfl) tabOk run2_f_t (V.args_cons (.sym 0 _ rfl (.int _ _)) (V.args_cons (.bool _) (V.args_cons (.bool _) V.args_nil)))
set_option maxRecDepth 1000000 in
theorem run2_t_f : V.yes (V.fcall Try.prog ac2 tab 400 4 [.dat (.sym 0), .dat (.bool true), .dat (.bool false)] [] 0) = true := by kernel_rfl
theorem case2_t_f (a0 : Int) (W : World) (h : a0 % 10 = 2) (h0 : 0 ≤ a0) : Calls Try.prog 4 #[.int .u8 a0, .bool true, .bool false] W (fun e W' => e = .returned (.bool true) ∧ Below W.heap.size W W') := by
  letI : V.Sig := V.sigOf (sg2 a0)
  exact V.law_fcall (an := ac2) ⟨named, V.spec_of_tbl (V.TblOk.any tbNo tbOk), V.orc_of (fo2 a0 h h0) rfl, V.call_clones cloneOk rfl⟩ regs follows (V.shy_orcOf rfl) tabOk run2_t_f (V.args_cons (.sym 0 _ rfl (.int _ _)) (V.args_cons (.bool _) (V.args_cons (.bool _) V.args_nil)))
set_option maxRecDepth 1000000 in
theorem run2_t_t : V.yes (V.fcall Try.prog ac2 tab 400 4 [.dat (.sym 0), .dat (.bool true), .dat (.bool true)] [] 0) = true := by kernel_rfl
theorem case2_t_t (a0 : Int) (W : World) (h : a0 % 10 = 2) (h0 : 0 ≤ a0) : Calls Try.prog 4 #[.int .u8 a0, .bool true, .bool true] W (fun e W' => e = .returned (.bool true) ∧ Below W.heap.size W W') := by
  letI : V.Sig := V.sigOf (sg2 a0)
  exact V.law_fcall (an := ac2) ⟨named, V.spec_of_tbl (V.TblOk.any tbNo tbOk), V.orc_of (fo2 a0 h h0) rfl, V.call_clones cloneOk rfl⟩ regs follows (V.shy_orcOf rfl) tabOk run2_t_t (V.args_cons (.sym 0 _ rfl (.int _ _)) (V.args_cons (.bool _) (V.args_cons (.bool _) V.args_nil)))
def sg3 (a0 : Int) : Nat → V.D
  | 0 => .int .u8 a0
  | _ => .nil
def fa3 : List V.Fact := [.ari .rem (.sym 0) (.int .u8 10) (.int .u8 3)]
theorem fo3 (a0 : Int) (h : a0 % 10 = 3) (h0 : 0 ≤ a0) : ∀ f ∈ fa3, @V.Fact.ok (V.sigOf (sg3 a0)) Try.prog f := by
  letI : V.Sig := V.sigOf (sg3 a0)
  intro f hf
  simp only [fa3, List.mem_cons, List.not_mem_nil, or_false] at hf
  subst hf
  refine V.oka (k := .u8) (m := a0) (n := 10) (r := 3) rfl rfl ?_ rfl
  simp only [V.ariI]
  rw [if_neg (by omega), Int.tmod_eq_emod_of_nonneg h0, h]
def ac3 : V.An := { io := fun f => [6,7].contains f, ownRes := fun _ => false, spec := V.inTbl tb, call := V.cloneOf clones, orc := V.orcOf fa3 }
set_option maxRecDepth 1000000 in
theorem run3_f_f : V.yes (V.fcall Try.prog ac3 tab 400 4 [.dat (.sym 0), .dat (.bool false), .dat (.bool false)] [] 0) = true := by kernel_rfl
theorem case3_f_f (a0 : Int) (W : World) (h : a0 % 10 = 3) (h0 : 0 ≤ a0) : Calls Try.prog 4 #[.int .u8 a0, .bool false, .bool false] W (fun e W' => e = .returned (.bool true) ∧ Below W.heap.size W W') := by
  letI : V.Sig := V.sigOf (sg3 a0)
  exact V.law_fcall (an := ac3) ⟨named, V.spec_of_tbl (V.TblOk.any tbNo tbOk), V.orc_of (fo3 a0 h h0) rfl, V.call_clones cloneOk rfl⟩ regs follows (V.shy_orcOf rfl) tabOk run3_f_f (V.args_cons (.sym 0 _ rfl (.int _ _)) (V.args_cons (.bool _) (V.args_cons (.bool _) V.args_nil)))
set_option maxRecDepth 1000000 in
theorem run3_f_t : V.yes (V.fcall Try.prog ac3 tab 400 4 [.dat (.sym 0), .dat (.bool false), .dat (.bool true)] [] 0) = true := by kernel_rfl
theorem case3_f_t (a0 : Int) (W : World) (h : a0 % 10 = 3) (h0 : 0 ≤ a0) : Calls Try.prog 4 #[.int .u8 a0, .bool false, .bool true] W (fun e W' => e = .returned (.bool true) ∧ Below W.heap.size W W') := by
  letI : V.Sig := V.sigOf (sg3 a0)
  exact V.law_fcall (an := ac3) ⟨named, V.spec_of_tbl (V.TblOk.any tbNo tbOk), V.orc_of (fo3 a0 h h0) rfl, V.call_clones cloneOk rfl⟩ regs follows (V.shy_orcOf rfl) tabOk run3_f_t (V.args_cons (.sym 0 _ rfl (.int _ _)) (V.args_cons (.bool _) (V.args_cons (.bool _) V.args_nil)))
set_option maxRecDepth 1000000 in
theorem run3_t_f : V.yes (V.fcall Try.prog ac3 tab 400 4 [.dat (.sym 0), .dat (.bool true), .dat (.bool false)] [] 0) = true := by kernel_rfl
theorem case3_t_f (a0 : Int) (W : World) (h : a0 % 10 = 3) (h0 : 0 ≤ a0) : Calls Try.prog 4 #[.int .u8 a0, .bool true, .bool false] W (fun e W' => e = .returned (.bool true) ∧ Below W.heap.size W W') := by
  letI : V.Sig := V.sigOf (sg3 a0)
  exact V.law_fcall (an := ac3) ⟨named, V.spec_of_tbl (V.TblOk.any tbNo tbOk), V.orc_of (fo3 a0 h h0) rfl, V.call_clones cloneOk rfl⟩ regs follows (V.shy_orcOf rfl) tabOk run3_t_f (V.args_cons (.sym 0 _ rfl (.int _ _)) (V.args_cons (.bool _) (V.args_cons (.bool _) V.args_nil)))
set_option maxRecDepth 1000000 in
theorem run3_t_t : V.yes (V.fcall Try.prog ac3 tab 400 4 [.dat (.sym 0), .dat (.bool true), .dat (.bool true)] [] 0) = true := by kernel_rfl
theorem case3_t_t (a0 : Int) (W : World) (h : a0 % 10 = 3) (h0 : 0 ≤ a0) : Calls Try.prog 4 #[.int .u8 a0, .bool true, .bool true] W (fun e W' => e = .returned (.bool true) ∧ Below W.heap.size W W') := by
  letI : V.Sig := V.sigOf (sg3 a0)
  exact V.law_fcall (an := ac3) ⟨named, V.spec_of_tbl (V.TblOk.any tbNo tbOk), V.orc_of (fo3 a0 h h0) rfl, V.call_clones cloneOk rfl⟩ regs follows (V.shy_orcOf rfl) tabOk run3_t_t (V.args_cons (.sym 0 _ rfl (.int _ _)) (V.args_cons (.bool _) (V.args_cons (.bool _) V.args_nil)))
def sg4 (a0 : Int) : Nat → V.D
  | 0 => .int .u8 a0
  | _ => .nil
def fa4 : List V.Fact := [.ari .rem (.sym 0) (.int .u8 10) (.int .u8 4)]
theorem fo4 (a0 : Int) (h : a0 % 10 = 4) (h0 : 0 ≤ a0) : ∀ f ∈ fa4, @V.Fact.ok (V.sigOf (sg4 a0)) Try.prog f := by
  letI : V.Sig := V.sigOf (sg4 a0)
  intro f hf
  simp only [fa4, List.mem_cons, List.not_mem_nil, or_false] at hf
  subst hf
  refine V.oka (k := .u8) (m := a0) (n := 10) (r := 4) rfl rfl ?_ rfl
  simp only [V.ariI]
  rw [if_neg (by omega), Int.tmod_eq_emod_of_nonneg h0, h]
def ac4 : V.An := { io := fun f => [6,7].contains f, ownRes := fun _ => false, spec := V.inTbl tb, call := V.cloneOf clones, orc := V.orcOf fa4 }
set_option maxRecDepth 1000000 in
theorem run4_f_f : V.yes (V.fcall Try.prog ac4 tab 400 4 [.dat (.sym 0), .dat (.bool false), .dat (.bool false)] [] 0) = true := by kernel_rfl
theorem case4_f_f (a0 : Int) (W : World) (h : a0 % 10 = 4) (h0 : 0 ≤ a0) : Calls Try.prog 4 #[.int .u8 a0, .bool false, .bool false] W (fun e W' => e = .returned (.bool true) ∧ Below W.heap.size W W') := by
  letI : V.Sig := V.sigOf (sg4 a0)
  exact V.law_fcall (an := ac4) ⟨named, V.spec_of_tbl (V.TblOk.any tbNo tbOk), V.orc_of (fo4 a0 h h0) rfl, V.call_clones cloneOk rfl⟩ regs follows (V.shy_orcOf rfl) tabOk run4_f_f (V.args_cons (.sym 0 _ rfl (.int _ _)) (V.args_cons (.bool _) (V.args_cons (.bool _) V.args_nil)))
set_option maxRecDepth 1000000 in
theorem run4_f_t : V.yes (V.fcall Try.prog ac4 tab 400 4 [.dat (.sym 0), .dat (.bool false), .dat (.bool true)] [] 0) = true := by kernel_rfl
theorem case4_f_t (a0 : Int) (W : World) (h : a0 % 10 = 4) (h0 : 0 ≤ a0) : Calls Try.prog 4 #[.int .u8 a0, .bool false, .bool true] W (fun e W' => e = .returned (.bool true) ∧ Below W.heap.size W W') := by
  letI : V.Sig := V.sigOf (sg4 a0)
  exact V.law_fcall (an := ac4) ⟨named, V.spec_of_tbl (V.TblOk.any tbNo tbOk), V.orc_of (fo4 a0 h h0) rfl, V.call_clones cloneOk rfl⟩ regs follows (V.shy_orcOf rfl) tabOk run4_f_t (V.args_cons (.sym 0 _ rfl (.int _ _)) (V.args_cons (.bool _) (V.args_cons (.bool _) V.args_nil)))
set_option maxRecDepth 1000000 in
theorem run4_t_f : V.yes (V.fcall Try.prog ac4 tab 400 4 [.dat (.sym 0), .dat (.bool true), .dat (.bool false)] [] 0) = true := by kernel_rfl
theorem case4_t_f (a0 : Int) (W : World) (h : a0 % 10 = 4) (h0 : 0 ≤ a0) : Calls Try.prog 4 #[.int .u8 a0, .bool true, .bool false] W (fun e W' => e = .returned (.bool true) ∧ Below W.heap.size W W') := by
  letI : V.Sig := V.sigOf (sg4 a0)
  exact V.law_fcall (an := ac4) ⟨named, V.spec_of_tbl (V.TblOk.any tbNo tbOk), V.orc_of (fo4 a0 h h0) rfl, V.call_clones cloneOk rfl⟩ regs follows (V.shy_orcOf rfl) tabOk run4_t_f (V.args_cons (.sym 0 _ rfl (.int _ _)) (V.args_cons (.bool _) (V.args_cons (.bool _) V.args_nil)))
set_option maxRecDepth 1000000 in
theorem run4_t_t : V.yes (V.fcall Try.prog ac4 tab 400 4 [.dat (.sym 0), .dat (.bool true), .dat (.bool true)] [] 0) = true := by kernel_rfl
theorem case4_t_t (a0 : Int) (W : World) (h : a0 % 10 = 4) (h0 : 0 ≤ a0) : Calls Try.prog 4 #[.int .u8 a0, .bool true, .bool true] W (fun e W' => e = .returned (.bool true) ∧ Below W.heap.size W W') := by
  letI : V.Sig := V.sigOf (sg4 a0)
  exact V.law_fcall (an := ac4) ⟨named, V.spec_of_tbl (V.TblOk.any tbNo tbOk), V.orc_of (fo4 a0 h h0) rfl, V.call_clones cloneOk rfl⟩ regs follows (V.shy_orcOf rfl) tabOk run4_t_t (V.args_cons (.sym 0 _ rfl (.int _ _)) (V.args_cons (.bool _) (V.args_cons (.bool _) V.args_nil)))
def sg5 (a0 : Int) : Nat → V.D
  | 0 => .int .u8 a0
  | _ => .nil
def fa5 : List V.Fact := [.ari .rem (.sym 0) (.int .u8 10) (.int .u8 5)]
theorem fo5 (a0 : Int) (h : a0 % 10 = 5) (h0 : 0 ≤ a0) : ∀ f ∈ fa5, @V.Fact.ok (V.sigOf (sg5 a0)) Try.prog f := by
  letI : V.Sig := V.sigOf (sg5 a0)
  intro f hf
  simp only [fa5, List.mem_cons, List.not_mem_nil, or_false] at hf
  subst hf
  refine V.oka (k := .u8) (m := a0) (n := 10) (r := 5) rfl rfl ?_ rfl
  simp only [V.ariI]
  rw [if_neg (by omega), Int.tmod_eq_emod_of_nonneg h0, h]
def ac5 : V.An := { io := fun f => [6,7].contains f, ownRes := fun _ => false, spec := V.inTbl tb, call := V.cloneOf clones, orc := V.orcOf fa5 }
set_option maxRecDepth 1000000 in
theorem run5_f_f : V.yes (V.fcall Try.prog ac5 tab 400 4 [.dat (.sym 0), .dat (.bool false), .dat (.bool false)] [] 0) = true := by kernel_rfl
theorem case5_f_f (a0 : Int) (W : World) (h : a0 % 10 = 5) (h0 : 0 ≤ a0) : Calls Try.prog 4 #[.int .u8 a0, .bool false, .bool false] W (fun e W' => e = .returned (.bool true) ∧ Below W.heap.size W W') := by
  letI : V.Sig := V.sigOf (sg5 a0)
  exact V.law_fcall (an := ac5) ⟨named, V.spec_of_tbl (V.TblOk.any tbNo tbOk), V.orc_of (fo5 a0 h h0) rfl, V.call_clones cloneOk rfl⟩ regs follows (V.shy_orcOf rfl) tabOk run5_f_f (V.args_cons (.sym 0 _ rfl (.int _ _)) (V.args_cons (.bool _) (V.args_cons (.bool _) V.args_nil)))
set_option maxRecDepth 1000000 in
theorem run5_f_t : V.yes (V.fcall Try.prog ac5 tab 400 4 [.dat (.sym 0), .dat (.bool false), .dat (.bool true)] [] 0) = true := by kernel_rfl
theorem case5_f_t (a0 : Int) (W : World) (h : a0 % 10 = 5) (h0 : 0 ≤ a0) : Calls Try.prog 4 #[.int .u8 a0, .bool false, .bool true] W (fun e W' => e = .returned (.bool true) ∧ Below W.heap.size W W') := by
  letI : V.Sig := V.sigOf (sg5 a0)
  exact V.law_fcall (an := ac5) ⟨named, V.spec_of_tbl (V.TblOk.any tbNo tbOk), V.orc_of (fo5 a0 h h0) rfl, V.call_clones cloneOk rfl⟩ regs follows (V.shy_orcOf rfl) tabOk run5_f_t (V.args_cons (.sym 0 _ rfl (.int _ _)) (V.args_cons (.bool _) (V.args_cons (.bool _) V.args_nil)))
set_option maxRecDepth 1000000 in
theorem run5_t_f : V.yes (V.fcall Try.prog ac5 tab 400 4 [.dat (.sym 0), .dat (.bool true), .dat (.bool false)] [] 0) = true := by kernel_rfl
theorem case5_t_f (a0 : Int) (W : World) (h : a0 % 10 = 5) (h0 : 0 ≤ a0) : Calls Try.prog 4 #[.int .u8 a0, .bool true, .bool false] W (fun e W' => e = .returned (.bool true) ∧ Below W.heap.size W W') := by
  letI : V.Sig := V.sigOf (sg5 a0)
  exact V.law_fcall (an := ac5) ⟨named, V.spec_of_tbl (V.TblOk.any tbNo tbOk), V.orc_of (fo5 a0 h h0) rfl, V.call_clones cloneOk rfl⟩ regs follows (V.shy_orcOf rfl) tabOk run5_t_f (V.args_cons (.sym 0 _ rfl (.int _ _)) (V.args_cons (.bool _) (V.args_cons (.bool _) V.args_nil)))
set_option maxRecDepth 1000000 in
theorem run5_t_t : V.yes (V.fcall Try.prog ac5 tab 400 4 [.dat (.sym 0), .dat (.bool true), .dat (.bool true)] [] 0) = true := by kernel_rfl
theorem case5_t_t (a0 : Int) (W : World) (h : a0 % 10 = 5) (h0 : 0 ≤ a0) : Calls Try.prog 4 #[.int .u8 a0, .bool true, .bool true] W (fun e W' => e = .returned (.bool true) ∧ Below W.heap.size W W') := by
  letI : V.Sig := V.sigOf (sg5 a0)
  exact V.law_fcall (an := ac5) ⟨named, V.spec_of_tbl (V.TblOk.any tbNo tbOk), V.orc_of (fo5 a0 h h0) rfl, V.call_clones cloneOk rfl⟩ regs follows (V.shy_orcOf rfl) tabOk run5_t_t (V.args_cons (.sym 0 _ rfl (.int _ _)) (V.args_cons (.bool _) (V.args_cons (.bool _) V.args_nil)))
end Go.Proofs.Ytfkpjehjkhofhaa.Say
