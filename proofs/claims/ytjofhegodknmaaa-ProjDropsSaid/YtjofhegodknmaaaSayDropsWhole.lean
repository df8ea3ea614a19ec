/- Of a struct just the fields that the other one has stay: joined. Mine. -/
import Derived.Test.YtjofhegodknmaaaSayDropsMain
set_option linter.unusedVariables false
set_option linter.unusedSimpArgs false
namespace Go.Proofs.Ytjofhegodknmaaa.Say
open Go Go.RowKit
open V (D)

theorem dm3 (H K : Option (List Bool)) (n : Int) : V.Run Try.prog d3 (zA1 (bD H) (bD K) n) .normal (zA3 (bD H) (bD K) n (decide (12 < (bl H).length) || decide (12 < (bl K).length))) := by
  by_cases a : 12 < (bl H).length
  · rw [decide_eq_true a, Bool.true_or]
    cases H with
    | none => exact absurd a (by simp [bl])
    | some H => exact dm3_long (M := []) (V.c_gtrT (by rw [List.length_map]; simp only [bl, Option.getD_some] at a; omega))
  · rw [decide_eq_false a, Bool.false_or]
    have hr : ∀ {L : List Bool} {r : Bool}, r = decide (12 < L.length) → V.cmpI .gtr ((L.map D.bool).length : Int) 12 = some r := by
      intro L r h
      subst h
      rw [List.length_map]
      by_cases c : 12 < L.length
      · rw [decide_eq_true c]; exact V.c_gtrT (by omega)
      · rw [decide_eq_false c]; exact V.c_gtrF (by omega)
    cases H with
    | none =>
      cases K with
      | none => exact dm3_nn (L := []) (M := []) (k := .nil) (r := false) (by kernel_rfl) (by kernel_rfl)
      | some K => exact dm3_nl (L := []) (k := .nil) (by kernel_rfl) (hr rfl)
    | some H =>
      have hF := hr (L := H) (r := false) (decide_eq_false (by simpa [bl] using a)).symm
      cases K with
      | none => exact dm3_ln (M := []) (k := .nil) (r := false) hF (by kernel_rfl)
      | some K => exact dm3_ll (k := .nil) hF (hr rfl)
theorem whole (H K : Option (List Bool)) {n : Int} (hn : -128 ≤ n ∧ n ≤ 127) : ∃ s', V.Run Try.prog dA (zOD (bD H) (bD K) n) .ret s' ∧ s'.tm[6]? = some (.dat (.bool true)) := by
  obtain ⟨p0, p1⟩ := runAD (bD H) (bD K) n
  have r0 := @V.Run.of_exec V.sig0 _ _ (goodBeD _) regs follows _ _ _ _ _ regsDm.1 p0
  have r1 := @V.Run.of_exec V.sig0 _ _ (goodBeD _) regs follows _ _ _ _ _ regsDm.2.1 p1
  have r3 := dm3 H K n
  cases hb : (decide (12 < (bl H).length) || decide (12 < (bl K).length)) with
  | true =>
    rw [hb] at r3
    have r4 : V.Run Try.prog d4 (zA3 (bD H) (bD K) n true) .ret (nd (V.exec Try.prog anE 400 d4 (zA3 (bD H) (bD K) n true))) := @V.Run.of_exec V.sig0 _ _ (goodE _) regs follows 400 _ _ _ _ regsDm.2.2.1.2.1 (by kernel_rfl)
    refine ⟨nd (V.exec Try.prog anE 400 d4 (zA3 (bD H) (bD K) n true)), ?_, ?_⟩
    · rw [shapeD]
      exact V.Run.seq r0 (V.Run.seq r1 (V.Run.seq_out (V.Run.seq r3 (V.Run.cond_true (by kernel_rfl) r4)) (by simp)))
    · kernel_rfl
  | false =>
    rw [hb] at r3
    have c3 : V.Run Try.prog (.cond (.tmp 26) d4 .skip) (zA3 (bD H) (bD K) n false) .normal _ := V.Run.cond_false (by kernel_rfl) (V.Run.skip (goodE V.sig0) regs follows)
    obtain ⟨st, nx, hs, hL⟩ := rounds hn H K 12 0 rfl (o5 ++ [(144, xO (.dat .nil))]) 10000 Sh.s0
    have rL := hs.data (V.Run.block_to (id := 0) (V.Run.loop hL)) (by kernel_rfl) (by kernel_rfl)
    have ek : pick (fun j => (bl K).getD j false && (bl H).getD j false) 12 = kept (pick (fun j => (bl K).getD j false) 12) (pick (fun j => (bl H).getD j false) 12) := by
      have hmem : ∀ j : Nat, j < 12 → (((j : Int) - 3) ∈ pick (fun j => (bl K).getD j false) 12 ↔ (bl K).getD j false = true) := by
        intro j hj
        rw [pick_mem]
        constructor
        · rintro ⟨j', _, hp, he⟩
          have : j = j' := by omega
          subst this
          exact hp
        · intro hp
          exact ⟨j, hj, hp, rfl⟩
      unfold kept
      unfold pick at hmem ⊢
      rw [List.filter_map, List.filter_filter]
      congr 1
      apply List.filter_congr
      intro j hj
      have hm := hmem j (List.mem_range.1 hj)
      simp only [Function.comp_apply]
      cases hK : (bl K).getD j false with
      | true =>
        have : ((j : Int) - 3) ∈ List.map (fun (j : Nat) => (j : Int) - 3) (List.filter (fun j => (bl K).getD j false) (List.range 12)) := hm.2 hK
        simp only [decide_eq_true this, Bool.true_and, Bool.and_true]
      | false =>
        have : ¬ ((j : Int) - 3) ∈ List.map (fun (j : Nat) => (j : Int) - 3) (List.filter (fun j => (bl K).getD j false) (List.range 12)) := fun h => by rw [hm.1 h] at hK; exact absurd hK (by simp)
        simp only [decide_eq_false this, Bool.false_and, Bool.and_false]
    rw [ek] at rL
    obtain ⟨s', rT, ht⟩ := endRun n (xs := pick (fun j => (bl K).getD j false) 12) (vs := pick (fun j => (bl H).getD j false) 12) (pick_len _ _) (pick_len _ _) (pick_up _ _)
    refine ⟨s', ?_, ht⟩
    rw [shapeD]
    exact V.Run.seq r0 (V.Run.seq r1 (V.Run.seq (V.Run.seq r3 c3) (V.Run.seq (dm5 _ _ _) (V.Run.seq (dm6 _ _ _) (V.Run.seq (V.Run.seq (dm7 _ _ _) rL) rT)))))
end Go.Proofs.Ytjofhegodknmaaa.Say
