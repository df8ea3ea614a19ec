/- maps.Clone's instance: what it yields, whatever the map. -/
import Derived.Test.YtillejiepbgkbaaGreatChecked
import Derived.Test.YtillejiepbgkbaaGreatVC
import Derived.Shelf.SlMaps.Clone
set_option linter.unusedVariables false
set_option linter.unusedSimpArgs false
namespace Go.Proofs.YtillejiepbgkbaaGreat.Say
open Go Go.RowKit Go.Proofs
set_option maxHeartbeats 2000000 in
set_option maxRecDepth 100000 in
theorem cloneCalls (b : Nat) (es : Array MapEntry) (clock : Nat) (w : World) (hb : w.heap[b]? = some (.map es clock)) :
    Calls Tryz.prog 92 #[.map (some b)] w fun e w' => e = .returned (.map (some w.heap.size)) ∧ w' = w.alloc (.map es clock) := by
  have hq := fun w => run_eql_map_nil_sl (P := Tryz.prog) w 144 _ _ (some b) Tryz.underlying144
  go_enter Tryz.func92, Tryz.ntmps92
  go_wp2
  rw [run_callFunc_extern Tryz.func140 (by kernel_rfl) (by kernel_rfl) (by kernel_rfl) (e := Extern.MapsClone.clone) (by kernel_rfl), run_maps_clone_sl w 144 hb]
  simp only [Result.andThen]
  rw [Oper.upon_value]
  go_wp2
  rw [run_typeAssert_map_sl _ 144 20 _ _ _ Tryz.underlying144]
  simp only [Result.andThen]
  rw [Oper.upon_value]
  go_wp2
  go_ret
  exact ⟨rfl, rfl⟩
def clones : List Nat := [92]
theorem cloneOk : ∀ f ∈ clones, V.Clones Tryz.prog f := by
  intro f hf
  simp only [clones, List.mem_cons, List.not_mem_nil, or_false] at hf
  subst hf
  exact ⟨⟨Tryz.f92, _, Tryz.func92, rfl⟩, cloneCalls⟩
end Go.Proofs.YtillejiepbgkbaaGreat.Say
