/- Of a struct just the fields that the other one has stay: the law's loop. Mine. -/
import Derived.Test.YtjofhegodknmaaaSayProjGen
set_option linter.unusedVariables false
set_option linter.unusedSimpArgs false
namespace Go.Proofs.Ytjofhegodknmaaa.Say
open Go Go.RowKit
open V (D)

noncomputable def dA : Code := match Try.f3.body with
  | some c => c
  | none => .skip
noncomputable def d0 : Code := cf dA
noncomputable def d1 : Code := cf (cj 1 dA)
noncomputable def d3 : Code := cf (cf (cj 2 dA))
noncomputable def d4 : Code := ct (cs (cf (cj 2 dA)))
noncomputable def d5 : Code := cf (cj 3 dA)
noncomputable def d6 : Code := cf (cj 4 dA)
noncomputable def d7 : Code := cf (cf (cj 5 dA))
noncomputable def dLp : Code := cb (cb (cs (cf (cj 5 dA))))
noncomputable def dR : Code := cj 6 dA
noncomputable def d8 : Code := cf (cf dLp)
noncomputable def dB : Code := cb (cf (cs dLp))
noncomputable def d9 : Code := cs (cs dLp)
noncomputable def d10 : Code := cf dB
noncomputable def d11 : Code := cf (cf (cs dB))
noncomputable def d12 : Code := ct (cs (cf (cs dB)))
noncomputable def d13 : Code := cf (cs (cs dB))
noncomputable def dV : Code := ct (cs (cs (cs dB)))
noncomputable def d14 : Code := cf dV
noncomputable def d15 : Code := cf (cs dV)
noncomputable def d16 : Code := cf (cs (cs dV))
noncomputable def d17 : Code := ct (cs (cs (cs dV)))
theorem bodyD : Try.f3.body = some dA := by kernel_rfl
theorem shapeD : dA = .seq d0 (.seq d1 (.seq (.seq d3 (.cond (.tmp 26) d4 .skip)) (.seq d5 (.seq d6 (.seq (.seq d7 (.block 0 (.loop dLp))) dR))))) := by kernel_rfl
theorem shapeDl : dLp = .seq (.seq d8 (.cond (.tmp 31) .skip (.exit 0))) (.seq (.block 1 (.seq d10 (.seq (.seq d11 (.cond (.tmp 44) d12 .skip)) (.seq d13 (.cond (.tmp 62) (.seq d14 (.seq d15 (.seq d16 (.cond (.tmp 79) d17 .skip)))) .skip))))) d9) := by kernel_rfl
theorem regsDm : V.Regs d0 ∧ V.Regs d1 ∧ (V.Regs d3 ∧ V.Regs d4 ∧ V.Regs .skip) ∧ V.Regs d5 ∧ V.Regs d6 ∧ (V.Regs d7 ∧ V.Regs dLp) ∧ V.Regs dR := by
  have h := regs 3 Try.f3 dA Try.func3 bodyD
  rw [shapeD] at h
  exact h
end Go.Proofs.Ytjofhegodknmaaa.Say
