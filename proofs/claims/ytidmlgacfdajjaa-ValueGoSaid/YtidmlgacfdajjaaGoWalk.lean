import Derived.Test.YtidmlgacfdajjaaPValueGox1
import Derived.Test.YtidmlgacfdajjaaSayBegun
import Derived.Laws.IdiomStrings
import Derived.Laws.Cover4
import Derived.Deep.RegionWith
set_option linter.unusedVariables false
namespace Go.Proofs.Ytidmlgacfdajjaa.GoLaw
open Go Go.RowKit Go.Proofs.YtidmlgacfdajjaaW.PrintWords Go.Proofs.YtidmlgacfdajjaaW.PrintLast Go.Proofs.YtidmlgacfdajjaaW.PrintMore Go.Proofs.Ytidmlgacfdajjaa.PValueGo
theorem below_drewN {B : Nat} {a w : World} (h : Below B a w) (n : Nat) : Below B a (w.drewN n) := ⟨h.os, h.tape, h.output, h.size, h.block⟩
theorem begun_calls (W : World) : Calls Try.prog 11 #[] W (fun e W' => e = .returned (.bool true) ∧ Below W.heap.size W W') := by
  obtain ⟨k, hk⟩ := Say.Begun
  exact V.law_calls Say.good Say.regs Say.follows hk V.args_nil
set_option maxHeartbeats 8000000 in
set_option maxRecDepth 100000 in
theorem long (b : ByteArray) (w : World) (h : (60 : Int) < (b.size : Int)) : Calls Try.prog 5 #[.string b] w (fun e w' => e = .returned (.bool true) ∧ Below w.heap.size w w') := by
  go_enter Try.func5, Try.ntmps5
  have c : decide ((60 : Int) < (b.size : Int)) = true := decide_eq_true h
  go_wp2_with (go_at_call 11; refine (begun_calls _).mono ?_; rintro e w1 ⟨rfl, hb⟩)
  go_ret
  exact ⟨rfl, hb⟩
set_option maxHeartbeats 8000000 in
set_option maxRecDepth 100000 in
theorem short (b : ByteArray) (k : Nat) (r : Bool) (w : World) (h : ¬ (60 : Int) < (b.size : Int)) (hv : value_Valid.f k b = some r)
    (n : Nat) (rs : Array Value) (rt : ByteArray) (cap : World → Nat)
    (hc1 : ∀ w : World, (convert 9 39 (.string b)).run Try.prog w = .ok (.slice (some ⟨w.heap.size, 0, none⟩) n (cap w)) (w.drew.alloc (.cells (rs ++ Array.replicate (cap w - n) (.int .i32 0)) 21)))
    (hc2 : ∀ (w : World) (c k : Nat) (pad : Array Value), (convert 39 9 (.slice (some ⟨w.heap.size, 0, none⟩) n c)).run Try.prog (((w.drewN k).alloc (.cells (rs ++ pad) 21))) = .ok (.string rt) (((w.drewN k).alloc (.cells (rs ++ pad) 21))))
    (hc3 : ∀ (w : World) (c k m : Nat) (pad : Array Value), (convert 39 9 (.slice (some ⟨w.heap.size, 0, none⟩) n c)).run Try.prog (((w.drewN k).alloc (.cells (rs ++ pad) 21)).drewN m) = .ok (.string rt) (((w.drewN k).alloc (.cells (rs ++ pad) 21)).drewN m))
    (hc4 : ∀ (w : World) (c : Nat) (pad : Array Value), (convert 39 9 (.slice (some ⟨w.heap.size, 0, none⟩) n c)).run Try.prog (((w).alloc (.cells (rs ++ pad) 21))) = .ok (.string rt) (((w).alloc (.cells (rs ++ pad) 21))))
    (hc5 : ∀ (w : World) (c m : Nat) (pad : Array Value), (convert 39 9 (.slice (some ⟨w.heap.size, 0, none⟩) n c)).run Try.prog (((w).alloc (.cells (rs ++ pad) 21)).drewN m) = .ok (.string rt) (((w).alloc (.cells (rs ++ pad) 21)).drewN m))
    (hc6 : ∀ (w : World) (c : Nat) (pad : Array Value), (convert 39 9 (.slice (some ⟨w.heap.size, 0, none⟩) n c)).run Try.prog (((w.drew.drew).alloc (.cells (rs ++ pad) 21))) = .ok (.string rt) (((w.drew.drew).alloc (.cells (rs ++ pad) 21))))
    (hc7 : ∀ (w : World) (c : Nat) (pad : Array Value), (convert 39 9 (.slice (some ⟨w.heap.size, 0, none⟩) n c)).run Try.prog (((w).alloc (.cells (rs ++ pad) 21)).drew) = .ok (.string rt) (((w).alloc (.cells (rs ++ pad) 21)).drew))
    (hc8 : ∀ (w : World) (c : Nat) (pad : Array Value), (convert 39 9 (.slice (some ⟨w.heap.size, 0, none⟩) n c)).run Try.prog (((w).alloc (.cells (rs ++ pad) 21)).drew.drew) = .ok (.string rt) (((w).alloc (.cells (rs ++ pad) 21)).drew.drew)) :
    Calls Try.prog 5 #[.string b] w (fun e w' => e = .returned (.bool (r == (rt.toList == b.toList))) ∧ Below w.heap.size w w') := by
  go_enter Try.func5, Try.ntmps5
  have c : decide ((60 : Int) < (b.size : Int)) = false := decide_eq_false h
  go_wp2_with (first | (go_at_call 11; refine (begun_calls _).mono ?_; rintro e w1 ⟨rfl, hb⟩))
  go_region_with (go_at_call 12; refine (PValueGo.value_Valid.calls k b r _ hv).mono ?_; rintro e w2 ⟨rfl, ⟨nd, rfl⟩⟩)
  all_goals
    go_wp2
    go_ret
    refine ⟨rfl, ?_⟩
    repeat' (first | exact hb | apply Below.drew | apply below_drewN | apply Below.alloc)
    all_goals exact hb.size
end Go.Proofs.Ytidmlgacfdajjaa.GoLaw
