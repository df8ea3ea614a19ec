/- maps.Clone's instance: what it yields, whatever the map. -/
import Derived.Test.YtjofhegodknmaaaChecked
import Derived.Test.YtjofhegodknmaaaVC
import Derived.Shelf.SlMaps.Clone
set_option linter.unusedVariables false
set_option linter.unusedSimpArgs false
namespace Go.Proofs.Ytjofhegodknmaaa.Say
open Go Go.RowKit Go.Proofs
set_option maxHeartbeats 2000000 in
set_option maxRecDepth 8000 in
theorem cloneCalls (b : Nat) (es : Array MapEntry) (clock : Nat) (w : World) (hb : w.heap[b]? = some (.map es clock)) :
    Calls Try.prog 34 #[.map (some b)] w fun e w' => e = .returned (.map (some w.heap.size)) ∧ w' = w.alloc (.map es clock) := by
  have hq := fun w => run_eql_map_nil_sl (P := Try.prog) w 72 _ _ (some b) Try.underlying72
  go_enter Try.func34, Try.ntmps34
  go_wp2
  rw [run_callFunc_extern Try.func77 (by kernel_rfl) (by kernel_rfl) (by kernel_rfl) (e := Extern.MapsClone.clone) (by kernel_rfl), run_maps_clone_sl w 72 hb]
  simp only [Result.andThen]
  rw [Oper.upon_value]
  go_wp2
  rw [run_typeAssert_map_sl _ 72 20 _ _ _ Try.underlying72]
  simp only [Result.andThen]
  rw [Oper.upon_value]
  go_wp2
  go_ret
  exact ⟨rfl, rfl⟩
def clones : List Nat := [34]
theorem cloneOk : ∀ f ∈ clones, V.Clones Try.prog f := by
  intro f hf
  simp only [clones, List.mem_cons, List.not_mem_nil, or_false] at hf
  subst hf
  exact ⟨⟨Try.f34, _, Try.func34, rfl⟩, cloneCalls⟩
end Go.Proofs.Ytjofhegodknmaaa.Say
