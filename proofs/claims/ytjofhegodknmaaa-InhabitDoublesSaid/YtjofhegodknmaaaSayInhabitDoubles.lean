/- InhabitDoubles: the function's answer. To: Weights are told without making what they weigh: the law as a call. Mine. -/
import Derived.Test.YtjofhegodknmaaaDblD
import Derived.Test.YtjofhegodknmaaaDblC0
import Derived.Test.YtjofhegodknmaaaDblC1
import Derived.Test.YtjofhegodknmaaaDblC2
import Derived.Test.YtjofhegodknmaaaDblC3
set_option linter.unusedSimpArgs false
set_option linter.unusedVariables false
/-! InhabitDoubles: the function's answer. -/
namespace Go.Proofs.Ytjofhegodknmaaa.Dbl
open Go Go.RowKit
open W
open V (D)
theorem named : V.Named Try.prog := by
  have h : Try.prog.funcs.all (fun fn => fn.body.isNone || !(fn.name == "runtime.NumGoroutine")) = true := by kernel_rfl
  intro f fn c hf hc
  have := Array.all_eq_true_iff_forall_mem.1 h fn (Array.mem_of_getElem? hf)
  simpa [hc] using this
theorem regs : V.RegsP Try.prog := V.regs_of_check Try.checked.codeOk
theorem follows : Try.prog.follows .mixedOrders = true := by kernel_rfl
theorem heads_holds : ∀ p ∈ heads, @V.Holds V.sig0 Try.prog 74 [p.1] p.2 := by
  letI : V.Sig := V.sig0
  have hg : V.Good Try.prog an := ⟨named, fun f ds rs h => by simp [an] at h, fun op t ds d h => by simp [an] at h, V.call_none rfl⟩
  have key : ∀ (l : List (D × List D)), l.all (fun p => V.tells Try.prog an 300 74 [p.1] p.2) = true → ∀ p ∈ l, V.Holds Try.prog 74 [p.1] p.2 := fun l hl p hp => V.holds_of_tells hg regs follows (List.all_eq_true.1 hl p hp)
  intro p hp
  have e : heads = (heads.drop 0).take 11 ++ ((heads.drop 11).take 11 ++ ((heads.drop 22).take 11 ++ (heads.drop 33).take 11)) := by rfl
  rw [e] at hp
  rcases List.mem_append.1 hp with hp | hp
  · exact key _ h0 p hp
  rcases List.mem_append.1 hp with hp | hp
  · exact key _ h1 p hp
  rcases List.mem_append.1 hp with hp | hp
  · exact key _ h2 p hp
  · exact key _ h3 p hp
theorem lookH_mem : ∀ {l : List (D × List D)} {d : D} {r : List D}, lookH d l = some r → (d, r) ∈ l
  | [], d, r, h => by simp [lookH] at h
  | (e, q) :: l, d, r, h => by
    simp only [lookH] at h
    split at h
    · rename_i he
      have := V.beqD_eq _ _ he
      subst this
      obtain rfl := Option.some.inj h
      simp
    · exact List.mem_cons_of_mem _ (lookH_mem h)
theorem known_ok : ∀ f ds rs, known f ds = some rs → FnOk Try.prog C f ds rs ∧ V.isBody Try.prog f = true := by
  intro f ds rs h
  unfold known at h
  split at h
  · rename_i d
    split at h
    · rename_i hf
      obtain rfl := Nat.eq_of_beq_eq_true hf
      refine ⟨⟨fun _ => heads_holds _ (lookH_mem h), fun sg hs => ?_⟩, by kernel_rfl⟩
      have : C.sig 74 = none := rfl
      rw [this] at hs
      simp at hs
    · simp at h
  · simp at h
theorem all_ok {f : Nat} {ds rs : List D} (h : Cv F f ds rs) : FnOk Try.prog C f ds rs := by
  refine Cv_ok named regs follows (fun g hg => ?_) (fun g hg => ?_) trees_is known_ok h
  · have : g = 34 := by simpa [C, cloneL] using hg
    subst this
    exact Say.cloneOk 34 (by simp [Say.clones])
  · have : g = 34 := by simpa [C, cloneL] using hg
    subst this
    exact ⟨_, rfl, rfl⟩
/-- the law's function -/
theorem law_holds {n : Nat} (hn : n ≤ 255) : @V.Holds V.sig0 Try.prog 6 [.int .u8 n] [.bool true] := (all_ok (law_ok hn)).1 rfl
end Go.Proofs.Ytjofhegodknmaaa.Dbl
/-! Weights are told without making what they weigh: the law as a call. Mine. -/
namespace Go.Proofs.Ytjofhegodknmaaa.Say
open Go Go.RowKit
theorem InhabitDoubles (W : World) (a0 : Int) (w0 : (Lit.int .u8 a0).wf = true) : Calls Try.prog 6 #[.int .u8 a0] W (fun e W' => e = .returned (.bool true) ∧ Below W.heap.size W W') := by
  letI : V.Sig := V.sig0
  have b0 := V.wf_int w0
  simp only [IntKind.min, IntKind.max, IntKind.signed, IntKind.bits, Bool.false_eq_true, if_false] at b0
  obtain ⟨n, rfl⟩ : ∃ n : Nat, a0 = n := ⟨a0.toNat, by omega⟩
  have h := Dbl.law_holds (n := n) (by omega)
  refine Calls.mono (h.calls W (V.memOf W) [.int .u8 n] (fun _ _ h => h) (V.args_cons (.int _ _) V.args_nil)) fun e W' he => ?_
  obtain ⟨v, F', L', rfl, hE, _, hr⟩ := he
  cases hr with
  | dat _ _ h => cases h; exact ⟨rfl, hE.below⟩
end Go.Proofs.Ytjofhegodknmaaa.Say
