/- ValueGo: the walk and the plain law together. Mine. -/
import Derived.Test.YtidmlgacfdajjaaGoWalk
import Derived.Test.YtidmlgacfdajjaaGoPure
set_option linter.unusedVariables false
namespace Go.Proofs.Ytidmlgacfdajjaa.GoEnd
open Go Go.RowKit GoPure Go.Proofs.YtidmlgacfdajjaaW.PrintWords

theorem runes_are (s : ByteArray) : ∀ (f i : Nat) (acc : List Int), i ≤ s.size →
    Conv.runesFrom s f i (acc.map (Value.int .i32)).toArray = ((acc ++ decs f (s.data.toList.drop i)).map (Value.int .i32)).toArray
  | 0, i, acc, _ => by simp [Conv.runesFrom, decs]
  | f + 1, i, acc, hi => by
    unfold Conv.runesFrom decs
    by_cases h : i < s.size
    · have hne : s.data.toList.drop i ≠ [] := by
        intro e
        have := congrArg List.length e
        rw [List.length_drop, data_length] at this
        simp at this
        omega
      rw [if_pos h, decode_is s i h, if_neg (by simpa using hne)]
      have hn : i + (dec (s.data.toList.drop i)).2 ≤ s.size := by
        cases hg : good (s.data.toList.drop i) with
        | true =>
          obtain ⟨_, _, n2⟩ := dec_good _ hne hg
          rw [List.length_drop, data_length] at n2
          omega
        | false => rw [dec_bad _ hg]; simp only; omega
      simp only
      have := runes_are s f (i + (dec (s.data.toList.drop i)).2) (acc ++ [((dec (s.data.toList.drop i)).1 : Int)]) hn
      rw [List.drop_drop]
      simpa using this
    · have he : s.data.toList.drop i = [] := List.drop_eq_nil_of_le (by rw [data_length]; omega)
      rw [if_neg h, he]
      simp
theorem runes_is (s : ByteArray) : Conv.runesFrom s s.size 0 #[] = ((decs s.size s.data.toList).map (Value.int .i32)).toArray := by
  have := runes_are s s.size 0 [] (Nat.zero_le _)
  simpa using this
theorem bytes_fold (ns : List Int) : ∀ s : ByteArray, (ns.foldl (fun r n => r ++ Utf8.encode n) s).data.toList = s.data.toList ++ back ns := by
  induction ns with
  | nil => intro s; simp [back]
  | cons n ns ih => intro s; rw [List.foldl_cons, ih, back_cons]; simp
theorem bytes_are (ns : List Int) : (runesBytes ns).toList = back ns := by
  rw [ByteArray.toList_eq]
  unfold runesBytes
  rw [bytes_fold]
  rfl
theorem back_run (ns : List Int) (w W' : World) (c : Nat) (pad : Array Value) (hW : ∀ a : Addr, W'.cell? a = (w.alloc (.cells ((ns.map (Value.int .i32)).toArray ++ pad) 21)).cell? a) :
    (convert 39 9 (.slice (some ⟨w.heap.size, 0, none⟩) ns.length c)).run Try.prog W' = .ok (.string (runesBytes ns)) W' := by
  have := run_convert_runes (P := Try.prog) W' 39 9 21 ⟨w.heap.size, 0, none⟩ ns.length c ns (Nat.le_refl _) (by kernel_rfl) (by kernel_rfl) (by kernel_rfl) (fun j hj => by
    rw [hW]
    rw [show (⟨w.heap.size, 0, none⟩ : Addr).add j = ⟨w.heap.size, j, none⟩ by simp [Addr.add]; omega, World.cell?_alloc_mark]
    rw [Array.getElem?_append_left (by simpa using hj)]
    simp [List.getD_eq_getElem?_getD, List.getElem?_eq_getElem hj])
  rw [List.take_length] at this
  exact this

theorem ValueGo (W : World) (b : ByteArray) : Calls Try.prog 5 #[.string b] W (fun e W' => e = .returned (.bool true) ∧ Below W.heap.size W W') := by
  by_cases h : (60 : Int) < (b.size : Int)
  · exact GoLaw.long b W h
  · have hr := runes_is b
    have hsz : (Conv.runesFrom b b.size 0 #[]).size = (decs b.size b.data.toList).length := by rw [hr]; simp
    have hle := size_runesFrom b b.size 0 #[]
    have := GoLaw.short b _ _ W h (valid_eq b.size b (Nat.le_refl _)) (decs b.size b.data.toList).length (((decs b.size b.data.toList).map (Value.int .i32)).toArray) (runesBytes (decs b.size b.data.toList)) (fun w => grownCap w (decs b.size b.data.toList).length 0 21)
      (fun w => by
        have := run_runes_of_string (P := Try.prog) w 9 39 21 b (by kernel_rfl) (by kernel_rfl) (by kernel_rfl) (by simp at hle; omega)
        rw [hsz, hr] at this
        exact this)
      (fun w c k pad => back_run _ (w.drewN k) _ c pad (fun _ => rfl))
      (fun w c k m pad => back_run _ (w.drewN k) _ c pad (fun _ => rfl))
      (fun w c pad => back_run _ w _ c pad (fun _ => rfl))
      (fun w c m pad => back_run _ w _ c pad (fun _ => rfl))
      (fun w c pad => back_run _ w.drew.drew _ c pad (fun _ => rfl))
      (fun w c pad => back_run _ w _ c pad (fun _ => rfl))
      (fun w c pad => back_run _ w _ c pad (fun _ => rfl))
    have hl : b.size = b.data.toList.length := (data_length b).symm
    have ht := trip_eq b.data.toList
    rw [← hl] at ht
    rw [bytes_are, ByteArray.toList_eq, ht, beq_self_eq_true] at this
    exact this
end Go.Proofs.Ytidmlgacfdajjaa.GoEnd
namespace Go.Proofs.Ytidmlgacfdajjaa.Say
open Go Go.RowKit
theorem ValueGo (W : World) (b : ByteArray) : Calls Try.prog 5 #[.string b] W (fun e W' => e = .returned (.bool true) ∧ Below W.heap.size W W') := GoEnd.ValueGo W b
end Go.Proofs.Ytidmlgacfdajjaa.Say
