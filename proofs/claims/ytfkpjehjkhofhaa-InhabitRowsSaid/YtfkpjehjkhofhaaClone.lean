/- maps.Clone's instance: what it yields, whatever the map. -/
import Derived.Test.YtfkpjehjkhofhaaChecked
import Derived.Test.YtfkpjehjkhofhaaVC
import Derived.Shelf.SlMaps.Clone
set_option linter.unusedVariables false
set_option linter.unusedSimpArgs false
namespace Go.Proofs.Ytfkpjehjkhofhaa.Say
open Go Go.RowKit Go.Proofs
set_option maxHeartbeats 2000000 in
theorem cloneCalls (b : Nat) (es : Array MapEntry) (clock : Nat) (w : World) (hb : w.heap[b]? = some (.map es clock)) :
    Calls Try.prog 11 #[.map (some b)] w fun e w' => e = .returned (.map (some w.heap.size)) ∧ w' = w.alloc (.map es clock) := by
  have hq := fun w => run_eql_map_nil_sl (P := Try.prog) w 45 _ _ (some b) Try.underlying45
  go_enter Try.func11, Try.ntmps11
  go_wp2
  rw [run_callFunc_extern Try.func19 (by kernel_rfl) (by kernel_rfl) (by kernel_rfl) (e := Extern.MapsClone.clone) (by kernel_rfl), run_maps_clone_sl w 45 hb]
  simp only [Result.andThen]
  rw [Oper.upon_value]
  go_wp2
  rw [run_typeAssert_map_sl _ 45 20 _ _ _ Try.underlying45]
  simp only [Result.andThen]
  rw [Oper.upon_value]
  go_wp2
  go_ret
  exact ⟨rfl, rfl⟩
def clones : List Nat := [11]
theorem cloneOk : ∀ f ∈ clones, V.Clones Try.prog f := by
  intro f hf
  simp only [clones, List.mem_cons, List.not_mem_nil, or_false] at hf
  subst hf
  exact ⟨⟨Try.f11, _, Try.func11, rfl⟩, cloneCalls⟩
end Go.Proofs.Ytfkpjehjkhofhaa.Say
