/- OrderStays: the function's answer. To: What is normal stays: the law as a call. Mine. -/
import Derived.Test.YtjofhegodknmaaaStD
import Derived.Test.YtjofhegodknmaaaStB
set_option linter.unusedSimpArgs false
set_option linter.unusedVariables false
/-! OrderStays: the function's answer. -/
namespace Go.Proofs.Ytjofhegodknmaaa.St
open Go Go.RowKit
open W
open V (D)
theorem named : V.Named Try.prog := by
  have h : Try.prog.funcs.all (fun fn => fn.body.isNone || !(fn.name == "runtime.NumGoroutine")) = true := by kernel_rfl
  intro f fn c hf hc
  have := Array.all_eq_true_iff_forall_mem.1 h fn (Array.mem_of_getElem? hf)
  simpa [hc] using this
theorem regs : V.RegsP Try.prog := V.regs_of_check Try.checked.codeOk
theorem follows : Try.prog.follows .mixedOrders = true := by kernel_rfl
theorem all_ok {f : Nat} {ds rs : List D} (h : Cv F f ds rs) : FnOk Try.prog C f ds rs :=
  Cv_ok named regs follows (fun g hg => by simp [C, cloneL] at hg) (fun g hg => by simp [C, cloneL] at hg) trees_is (fun f ds rs h => by simp [known] at h) h
/-- the law's function -/
theorem law_holds {l h : List Int} {d0 d1 : D} (h0 : IsRow .i8 l d0) (h1 : IsRow .u8 h d1) (r0 : ∀ a ∈ l, -128 ≤ a ∧ a ≤ 127) (r1 : ∀ a ∈ h, 0 ≤ a ∧ a ≤ 255) : @V.Holds V.sig0 Try.prog 4 [d0, d1] [.bool true] := (all_ok (law_ok h0 h1 r0 r1)).1 rfl
end Go.Proofs.Ytjofhegodknmaaa.St
/-! What is normal stays: the law as a call. Mine. -/
namespace Go.Proofs.Ytjofhegodknmaaa.Say
open Go Go.RowKit
theorem OrderStays (W : World) (a0 : Option Addr) (len0 cap0 : Nat) (z0 : List Int) (a1 : Option Addr) (len1 cap1 : Nat) (z1 : List Int)
    (w0 : (a0 = none ∧ len0 = 0 ∧ cap0 = 0 ∧ z0 = []) ∨ ∃ x, a0 = some x ∧ len0 ≤ cap0 ∧ cap0 ≤ maxLen ∧ z0.length = cap0 ∧ (∀ i, i < z0.length → W.cell? (x.add i) = some (.int .i8 (z0.getD i 0))) ∧ ∀ n ∈ z0, (Lit.int .i8 n).wf = true)
    (w1 : (a1 = none ∧ len1 = 0 ∧ cap1 = 0 ∧ z1 = []) ∨ ∃ x, a1 = some x ∧ len1 ≤ cap1 ∧ cap1 ≤ maxLen ∧ z1.length = cap1 ∧ (∀ i, i < z1.length → W.cell? (x.add i) = some (.int .u8 (z1.getD i 0))) ∧ ∀ n ∈ z1, (Lit.int .u8 n).wf = true) :
    Calls Try.prog 4 #[.slice a0 len0 cap0, .slice a1 len1 cap1] W (fun e W' => e = .returned (.bool true) ∧ Below W.heap.size W W') := by
  letI : V.Sig := V.sig0
  have hrep0 := V.rep_row (k := .i8) w0
  have hrep1 := V.rep_row (k := .u8) w1
  have isr : ∀ {k : IntKind} {a : Option Addr} {len cap : Nat} {z : List Int} {p : Prop} {q : Addr → Prop}, (a = none ∧ len = 0 ∧ cap = 0 ∧ z = []) ∨ (∃ x, a = some x ∧ q x) → St.IsRow k (z.take len) (V.rowD k a len z) := by
    intro k a len cap z p q h
    rcases h with ⟨rfl, rfl, rfl, rfl⟩ | ⟨x, rfl, _⟩
    · exact .inl ⟨rfl, rfl⟩
    · exact .inr rfl
  have b0 : ∀ n ∈ z0.take len0, -128 ≤ n ∧ n ≤ 127 := by
    intro n hn
    rcases w0 with ⟨rfl, rfl, rfl, rfl⟩ | ⟨_, _, _, _, _, _, h⟩
    · simp at hn
    · have := V.wf_int (h n (List.mem_of_mem_take hn))
      simp only [IntKind.min, IntKind.max, IntKind.signed, IntKind.bits, if_true] at this
      omega
  have b1 : ∀ n ∈ z1.take len1, 0 ≤ n ∧ n ≤ 255 := by
    intro n hn
    rcases w1 with ⟨rfl, rfl, rfl, rfl⟩ | ⟨_, _, _, _, _, _, h⟩
    · simp at hn
    · have := V.wf_int (h n (List.mem_of_mem_take hn))
      simp only [IntKind.min, IntKind.max, IntKind.signed, IntKind.bits, Bool.false_eq_true, if_false] at this
      omega
  have h := St.law_holds (isr (p := True) (cap := cap0) w0) (isr (p := True) (cap := cap1) w1) b0 b1
  refine Calls.mono (h.calls W (V.memOf W) [.slice a0 len0 cap0, .slice a1 len1 cap1] (fun _ _ h => h) (V.args_cons hrep0 (V.args_cons hrep1 V.args_nil))) fun e W' he => ?_
  obtain ⟨v, F', L', rfl, hE, _, hr⟩ := he
  cases hr with
  | dat _ _ h => cases h; exact ⟨rfl, hE.below⟩
end Go.Proofs.Ytjofhegodknmaaa.Say
