/- TbinFields: the trees are the program's. To: TbinFields: the function's answer. -/
import Derived.Test.YtjofhegodknmaaaGreatOe
import Derived.Test.YtjofhegodknmaaaGreatOf
import Derived.Test.YtjofhegodknmaaaGreatOd
import Derived.Test.YtjofhegodknmaaaGreatOg
set_option linter.unusedSimpArgs false
set_option linter.unusedVariables false
/-! TbinFields: the trees are the program's. -/
namespace Go.Proofs.YtjofhegodknmaaaGreat.Tbf
open Go Go.RowKit
open W hiding R L
open V (D)
theorem trees_is : ∀ p ∈ trees, isTr Tryz.prog C p.1 p.2.1 p.2.2 = true := by
  intro p hp
  have e : trees = (trees.drop 0).take 8 ++ ((trees.drop 8).take 8 ++ ((trees.drop 16).take 8 ++ ((trees.drop 24).take 8 ++ ((trees.drop 32).take 8)))) := by rfl
  rw [e] at hp
  rcases List.mem_append.1 hp with hp | hp
  · exact List.all_eq_true.1 trees_0 p hp
  rcases List.mem_append.1 hp with hp | hp
  · exact List.all_eq_true.1 trees_1 p hp
  rcases List.mem_append.1 hp with hp | hp
  · exact List.all_eq_true.1 trees_2 p hp
  rcases List.mem_append.1 hp with hp | hp
  · exact List.all_eq_true.1 trees_3 p hp
  exact List.all_eq_true.1 trees_4 p hp
end Go.Proofs.YtjofhegodknmaaaGreat.Tbf
/-! TbinFields: the function's answer. -/
namespace Go.Proofs.YtjofhegodknmaaaGreat.Tbf
open Go Go.RowKit
open W
open V (D)
theorem named : V.Named Tryz.prog := by
  have h : Tryz.prog.funcs.all (fun fn => fn.body.isNone || !(fn.name == "runtime.NumGoroutine")) = true := by kernel_rfl
  intro f fn c hf hc
  have := Array.all_eq_true_iff_forall_mem.1 h fn (Array.mem_of_getElem? hf)
  simpa [hc] using this
theorem regs : V.RegsP Tryz.prog := V.regs_of_check Tryz.checked.codeOk
theorem follows : Tryz.prog.follows .mixedOrders = true := by kernel_rfl
theorem told {f k : Nat} {ds rs : List D} (h : V.tells Tryz.prog an k f ds rs = true) : @V.Holds V.sig0 Tryz.prog f ds rs := by
  letI : V.Sig := V.sig0
  have hg : V.Good Tryz.prog an := ⟨named, fun f ds rs h => by simp [an] at h, fun op t ds d h => by simp [an] at h, V.call_none rfl⟩
  exact V.holds_of_tells hg regs follows h
theorem known_ok : ∀ f ds rs, known f ds = some rs → FnOk Tryz.prog C f ds rs ∧ V.isBody Tryz.prog f = true := by
  intro f ds rs h
  have key : ∀ {f k : Nat} {ds rs : List D}, V.tells Tryz.prog an k f ds rs = true → C.sig f = none → V.isBody Tryz.prog f = true → FnOk Tryz.prog C f ds rs ∧ V.isBody Tryz.prog f = true := fun h hs hb =>
    ⟨⟨fun _ => told h, fun sg h' => by rw [hs] at h'; simp at h'⟩, hb⟩
  unfold known at h
  split at h
  · rename_i e
    simp only [Bool.and_eq_true] at e
    obtain rfl := Nat.eq_of_beq_eq_true e.1
    have := V.beqDs_eq _ _ e.2
    subst this
    obtain rfl := Option.some.inj h
    exact key begun_tells rfl (by kernel_rfl)
  · split at h
    · rename_i e
      simp only [Bool.and_eq_true] at e
      obtain rfl := Nat.eq_of_beq_eq_true e.1
      have := V.beqDs_eq _ _ e.2
      subst this
      obtain rfl := Option.some.inj h
      exact key head_tells rfl (by kernel_rfl)
    · simp at h
theorem all_ok {f : Nat} {ds rs : List D} (h : Cv F f ds rs) : FnOk Tryz.prog C f ds rs := by
  refine Cv_ok named regs follows (fun g hg => ?_) (fun g hg => ?_) trees_is known_ok h
  · simp [C] at hg
  · simp [C] at hg
end Go.Proofs.YtjofhegodknmaaaGreat.Tbf
