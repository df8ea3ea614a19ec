/- InhabitRows: the law, out of its cases. -/
import Derived.Test.YtfkpjehjkhofhaaSayRows1
import Derived.Test.YtfkpjehjkhofhaaSayRows2
import Derived.Test.YtfkpjehjkhofhaaSayRows3
import Derived.Test.YtfkpjehjkhofhaaSayRows4
namespace Go.Proofs.Ytfkpjehjkhofhaa.Say
open Go Go.RowKit
theorem InhabitRows (W : World) (a0 : Int) (a1 a2 : Bool) (w0 : (Lit.int .u8 a0).wf = true) : Calls Try.prog 4 #[.int .u8 a0, .bool a1, .bool a2] W (fun e W' => e = .returned (.bool true) ∧ Below W.heap.size W W') := by
  have b0 := V.wf_int w0
  simp only [IntKind.min, IntKind.max, IntKind.signed, IntKind.bits, Bool.false_eq_true, if_false] at b0
  have h0 : 0 ≤ a0 := by omega
  have hr : a0 % 10 = 0 ∨ a0 % 10 = 1 ∨ a0 % 10 = 2 ∨ a0 % 10 = 3 ∨ a0 % 10 = 4 ∨ a0 % 10 = 5 ∨ a0 % 10 = 6 ∨ a0 % 10 = 7 ∨ a0 % 10 = 8 ∨ a0 % 10 = 9 := by omega
  rcases hr with h | h | h | h | h | h | h | h | h | h
  · cases a1 <;> cases a2
    · exact case0_f_f a0 W h h0
    · exact case0_f_t a0 W h h0
    · exact case0_t_f a0 W h h0
    · exact case0_t_t a0 W h h0
  · cases a1 <;> cases a2
    · exact case1_f_f a0 W h h0
    · exact case1_f_t a0 W h h0
    · exact case1_t_f a0 W h h0
    · exact case1_t_t a0 W h h0
  · cases a1 <;> cases a2
    · exact case2_f_f a0 W h h0
    · exact case2_f_t a0 W h h0
    · exact case2_t_f a0 W h h0
    · exact case2_t_t a0 W h h0
  · cases a1 <;> cases a2
    · exact case3_f_f a0 W h h0
    · exact case3_f_t a0 W h h0
    · exact case3_t_f a0 W h h0
    · exact case3_t_t a0 W h h0
  · cases a1 <;> cases a2
    · exact case4_f_f a0 W h h0
    · exact case4_f_t a0 W h h0
    · exact case4_t_f a0 W h h0
    · exact case4_t_t a0 W h h0
  · cases a1 <;> cases a2
    · exact case5_f_f a0 W h h0
    · exact case5_f_t a0 W h h0
    · exact case5_t_f a0 W h h0
    · exact case5_t_t a0 W h h0
  · cases a1 <;> cases a2
    · exact case6_f_f a0 W h h0
    · exact case6_f_t a0 W h h0
    · exact case6_t_f a0 W h h0
    · exact case6_t_t a0 W h h0
  · cases a1 <;> cases a2
    · exact case7_f_f a0 W h h0
    · exact case7_f_t a0 W h h0
    · exact case7_t_f a0 W h h0
    · exact case7_t_t a0 W h h0
  · cases a1 <;> cases a2
    · exact case8_f_f a0 W h h0
    · exact case8_f_t a0 W h h0
    · exact case8_t_f a0 W h h0
    · exact case8_t_t a0 W h h0
  · cases a1 <;> cases a2
    · exact case9_f_f a0 W h h0
    · exact case9_f_t a0 W h h0
    · exact case9_t_f a0 W h h0
    · exact case9_t_t a0 W h h0
end Go.Proofs.Ytfkpjehjkhofhaa.Say
