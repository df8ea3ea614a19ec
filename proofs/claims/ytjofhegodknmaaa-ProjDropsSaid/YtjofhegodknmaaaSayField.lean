/- A struct's field by its number, among twelve at the most. Mine. -/
import Derived.Test.YtjofhegodknmaaaSayBase
set_option linter.unusedVariables false
set_option linter.unusedSimpArgs false
namespace Go.Proofs.Ytjofhegodknmaaa.Say
open Go Go.RowKit
open V (D)

def i8t : D := V.txt [105, 56]
/-- a field of that number -/
def fd (id : D) : D := .agg [id, .int .i64 0, i8t, mt, .bool false, .int .i64 0, .int .i64 0, mt, .nil, .nil]
def fd0 : D := .agg [.int .i64 0, .int .i64 0, mt, mt, .bool false, .int .i64 0, .int .i64 0, mt, .nil, .nil]
/-- a row, none as nil -/
def rowD (l : List D) : D := if l.length = 0 then .nil else .lst l
def xD (kind fs : D) : D := .agg [kind, mt, fs]
def nI (n : Int) : D := .int .i64 n
def fds (xs : List Int) : D := rowD (xs.map fun n => fd (nI n))
def fdsN (r : Nat) : D := rowD ((List.range r).map fun k => fd (.sym (20 + k)))
/-- 20 on: the fields' numbers; 60: the one that is looked for; 61: the struct's kind -/
def sF (kind : D) (xs : List Int) (id : Int) (j : Nat) : D := if j = 60 then nI id else if j = 61 then kind else nI (xs.getD (j - 20) 0)
theorem plainF {kind : D} (h1 : kind.one = true) (h2 : V.noSym kind = true) (xs : List Int) (id : Int) : V.Plain (sF kind xs id) := by
  constructor
  · intro j
    unfold sF
    split
    · rfl
    · split
      · exact h1
      · rfl
  · intro j
    unfold sF
    split
    · rfl
    · split
      · exact h2
      · rfl
def fF (m : Nat) (r : Nat) : List V.Fact := ((List.range (min m r)).map fun k => .cmp .eql (.sym (20 + k)) (.sym 60) false) ++ (if m < r then [.cmp .eql (.sym (20 + m)) (.sym 60) true] else [])
def aF (m r : Nat) : V.An := { anE with orc := V.orcOf (fF m r) }
def upto12 : List Nat := [0, 1, 2, 3, 4, 5, 6, 7, 8, 9, 10, 11, 12]
/-- m = r: there is none -/
def resF (m r : Nat) : List D := if m < r then [fd (.sym (20 + m)), .bool true] else [fd0, .bool false]
set_option maxRecDepth 1000000 in
theorem runF : upto12.all (fun r => (List.range (r + 1)).all fun m => V.tells Try.prog (aF m r) 400 57 [xD (.sym 61) (fdsN r), .sym 60] (resF m r)) = true := by kernel_rfl
theorem inFd (σ : Nat → D) (d : D) : V.inD σ (fd d) = fd (V.inD σ d) := by simp only [fd, i8t, mt, V.txt, V.inD, V.inDs]
theorem inFdsN (kind : D) (xs : List Int) (id : Int) (h : xs.length ≤ 12) : V.inD (sF kind xs id) (fdsN xs.length) = fds xs := by
  unfold fdsN fds rowD
  rw [List.length_map, List.length_map, List.length_range]
  split
  · rfl
  · simp only [V.inD, V.inDs_eq, List.map_map]
    congr 1
    apply List.ext_getElem
    · simp
    · intro i h1 h2
      simp at h1
      simp only [List.getElem_map, List.getElem_range, Function.comp_apply, inFd, V.inD]
      have : sF kind xs id (20 + i) = nI xs[i] := by
        unfold sF
        rw [if_neg (by omega), if_neg (by omega), show 20 + i - 20 = i by omega]
        simp [h1]
      rw [this]
theorem fieldHolds (kind : D) (h1 : kind.one = true) (h2 : V.noSym kind = true) (xs : List Int) (hl : xs.length ≤ 12) (id : Int) : @V.Holds V.sig0 Try.prog 57 [xD kind (fds xs), nI id] (if id ∈ xs then [fd (nI id), .bool true] else [fd0, .bool false]) := by
  have hP := plainF h1 h2 xs id
  obtain ⟨m, hm, hb, ha⟩ : ∃ m, m ≤ xs.length ∧ (∀ k, k < m → xs[k]? ≠ some id) ∧ (if id ∈ xs then xs[m]? = some id else m = xs.length) := by
    by_cases h : id ∈ xs
    · refine ⟨xs.idxOf id, List.idxOf_le_length, fun k hk e => ?_, ?_⟩
      · have hk' : k < xs.length := Nat.lt_of_lt_of_le hk List.idxOf_le_length
        have := List.not_of_lt_findIdx (p := fun x => x == id) (xs := xs) (i := k) hk
        rw [List.getElem?_eq_getElem hk'] at e
        simp at this e
        exact this e
      · rw [if_pos h]
        have hlt : xs.idxOf id < xs.length := List.idxOf_lt_length_of_mem h
        rw [List.getElem?_eq_getElem hlt]
        simp
    · refine ⟨xs.length, Nat.le_refl _, fun k hk e => h (List.mem_of_getElem? e), ?_⟩
      rw [if_neg h]
  have hf : ∀ f ∈ fF m xs.length, @V.Fact.ok (V.sigOf (sF kind xs id)) Try.prog f := by
    letI : V.Sig := V.sigOf (sF kind xs id)
    have hs : ∀ k, k < xs.length → sF kind xs id (20 + k) = nI (xs.getD k 0) := by
      intro k hk
      unfold sF
      rw [if_neg (by omega), if_neg (by omega), show 20 + k - 20 = k by omega]
    intro f hf
    rcases List.mem_append.1 hf with hf | hf
    · obtain ⟨k, hk, rfl⟩ := List.mem_map.1 hf
      have hk' := List.mem_range.1 hk
      have hkl : k < xs.length := by omega
      refine V.okc (k := .i64) (m := xs.getD k 0) (n := id) (hs k hkl) rfl (V.c_eqlF fun e => hb k (by omega) ?_)
      rw [List.getElem?_eq_getElem hkl, ← e]
      simp [hkl]
    · split at hf
      · rename_i hlt
        simp only [List.mem_cons, List.not_mem_nil, or_false] at hf
        subst hf
        have hmem : xs[m]? = some id := by
          split at ha
          · exact ha
          · omega
        refine V.okc (k := .i64) (m := xs.getD m 0) (n := id) (hs m hlt) rfl (V.c_eqlT ?_)
        simp [List.getD, hmem]
      · simp at hf
  have hg : @V.Good (V.sigOf (sF kind xs id)) Try.prog (aF m xs.length) := @V.Good.mk (V.sigOf (sF kind xs id)) _ _ named (fun _ _ _ h => nomatch h) (@V.orc_of (V.sigOf (sF kind xs id)) _ _ hf _ rfl) (@V.call_none (V.sigOf (sF kind xs id)) _ _ rfl)
  have hrun := List.all_eq_true.1 (List.all_eq_true.1 runF xs.length (by simp only [upto12, List.mem_cons, List.not_mem_nil, or_false]; omega)) m (List.mem_range.2 (by omega))
  have r := V.Holds.ins hP (@V.holds_of_tells (V.sigOf (sF kind xs id)) _ _ hg regs follows _ _ _ _ hrun)
  have e1 : V.inDs (sF kind xs id) [xD (.sym 61) (fdsN xs.length), .sym 60] = [xD kind (fds xs), nI id] := by
    simp only [xD, mt, V.txt, V.inDs, V.inD, inFdsN kind xs id hl]
    rfl
  rw [e1] at r
  unfold resF at r
  by_cases h : id ∈ xs
  · rw [if_pos h] at ha ⊢
    have hlt : m < xs.length := (List.getElem?_eq_some_iff.1 ha).1
    rw [if_pos hlt] at r
    have e2 : V.inDs (sF kind xs id) [fd (.sym (20 + m)), .bool true] = [fd (nI id), .bool true] := by
      simp only [V.inDs, inFd, V.inD]
      have : sF kind xs id (20 + m) = nI id := by
        unfold sF
        rw [if_neg (by omega), if_neg (by omega), show 20 + m - 20 = m by omega]
        simp [List.getD, ha]
      rw [this]
    rw [e2] at r
    exact r
  · rw [if_neg h] at ha ⊢
    rw [if_neg (by omega)] at r
    exact r
end Go.Proofs.Ytjofhegodknmaaa.Say
