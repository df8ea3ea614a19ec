/- Insertion into a sorted front, as lists: what comes out is in order, and the same elements; two such lists are one. Mine. -/
namespace Go.Proofs.Ytjofhegodknmaaa.Ord

section
variable {α : Type} (cc : α → α → Int)
def swp (q : Nat) (c0 c1 : α) (l : List α) : List α := (l.set (q + 1) c0).set q c1
theorem swp_len (q : Nat) (c0 c1 : α) (l : List α) : (swp q c0 c1 l).length = l.length := by simp [swp]
def sink : Nat → List α → List α
  | 0, l => l
  | q + 1, l =>
    match l[q]?, l[q + 1]? with
    | some c0, some c1 => if cc c1 c0 < 0 then sink q (swp q c0 c1 l) else l
    | _, _ => l
def isort : Nat → Nat → List α → List α
  | 0, _, l => l
  | m + 1, i, l => isort m (i + 1) (sink cc i l)
theorem sink_len : ∀ (q : Nat) (l : List α), (sink cc q l).length = l.length
  | 0, l => rfl
  | q + 1, l => by
    unfold sink
    split
    · split
      · rw [sink_len q, swp_len]
      · rfl
    · rfl
theorem isort_len : ∀ (m i : Nat) (l : List α), (isort cc m i l).length = l.length
  | 0, i, l => rfl
  | m + 1, i, l => by rw [isort, isort_len m, sink_len]
/-- put behind a front that is told from its end on -/
def insR (x : α) : List α → List α
  | [] => [x]
  | y :: r => if cc x y < 0 then insR x r ++ [y] else (y :: r).reverse ++ [x]
theorem sink_eq (x : α) : ∀ (rev rest : List α), sink cc rev.length (rev.reverse ++ x :: rest) = insR cc x rev ++ rest
  | [], rest => rfl
  | y :: r, rest => by
    have e : (y :: r).reverse ++ x :: rest = r.reverse ++ y :: x :: rest := by simp
    have h0 : (r.reverse ++ y :: x :: rest)[r.length]? = some y := by simp
    have h1 : (r.reverse ++ y :: x :: rest)[r.length + 1]? = some x := by
      rw [List.getElem?_append_right (by simp)]
      simp
    have hs : swp r.length y x (r.reverse ++ y :: x :: rest) = r.reverse ++ x :: y :: rest := by
      unfold swp
      rw [List.set_append_right _ _ (by simp)]
      simp only [List.length_reverse, Nat.add_sub_cancel_left, List.set_cons_succ, List.set_cons_zero]
      rw [List.set_append_right _ _ (by simp)]
      simp
    rw [e, List.length_cons, sink]
    simp only [h0, h1]
    unfold insR
    split
    · rw [hs, sink_eq x r (y :: rest)]
      simp
    · simp
theorem insR_perm (x : α) : ∀ rev : List α, (insR cc x rev).Perm (x :: rev)
  | [] => .refl _
  | y :: r => by
    unfold insR
    split
    · refine (List.Perm.append_right [y] (insR_perm x r)).trans ?_
      have : (x :: r ++ [y]).Perm (x :: (y :: r)) := by
        rw [List.cons_append]
        exact List.Perm.cons x (List.perm_append_singleton y r)
      exact this
    · refine (List.perm_append_singleton x _).trans ?_
      exact List.Perm.cons x (List.reverse_perm _)
variable (key : α → Int)
def Up (l : List α) : Prop := l.Pairwise fun a b => key a ≤ key b
theorem insR_up {x : α} : ∀ {rev : List α}, (∀ y ∈ rev, cc x y < 0 ↔ key x < key y) → Up key rev.reverse → Up key (insR cc x rev)
  | [], _, _ => by simp [insR, Up]
  | y :: r, hc, h => by
    have hy := hc y (by simp)
    rw [List.reverse_cons] at h
    have h1 := List.pairwise_append.1 h
    unfold insR
    split
    · rename_i hlt
      have ih := insR_up (rev := r) (fun z hz => hc z (by simp [hz])) h1.1
      refine List.pairwise_append.2 ⟨ih, by simp, fun a ha b hb => ?_⟩
      simp only [List.mem_cons, List.not_mem_nil, or_false] at hb
      subst hb
      have ha' := (insR_perm cc x r).subset ha
      rcases List.mem_cons.1 ha' with rfl | har
      · have := hy.1 hlt; omega
      · exact h1.2.2 a (by simpa using har) b (by simp)
    · rename_i hlt
      rw [List.reverse_cons]
      refine List.pairwise_append.2 ⟨h, by simp, fun a ha b hb => ?_⟩
      simp only [List.mem_cons, List.not_mem_nil, or_false] at hb
      subst hb
      have hk : key y ≤ key b := by have := mt hy.2 hlt; omega
      rcases List.mem_append.1 ha with har | hay
      · have := h1.2.2 a har y (by simp); omega
      · simp at hay; subst hay; exact hk
theorem isort_ok : ∀ (m : Nat) (front rest : List α), rest.length = m → (∀ x ∈ front ++ rest, ∀ y ∈ front ++ rest, cc x y < 0 ↔ key x < key y) → Up key front → Up key (isort cc m front.length (front ++ rest)) ∧ (isort cc m front.length (front ++ rest)).Perm (front ++ rest)
  | 0, front, rest, h, _, hu => by
    obtain rfl := List.length_eq_zero_iff.1 h
    rw [List.append_nil]
    exact ⟨hu, .refl _⟩
  | m + 1, front, [], h, _, hu => by simp at h
  | m + 1, front, x :: rest, h, hc, hu => by
    have e : sink cc front.length (front ++ x :: rest) = insR cc x front.reverse ++ rest := by
      have := sink_eq cc x front.reverse rest
      rw [List.length_reverse, List.reverse_reverse] at this
      exact this
    have hp : (insR cc x front.reverse).Perm (x :: front) := (insR_perm cc x _).trans (List.Perm.cons x (List.reverse_perm _))
    have hpa : (insR cc x front.reverse ++ rest).Perm (front ++ x :: rest) := by
      refine (List.Perm.append_right rest hp).trans ?_
      exact List.perm_middle.symm
    have hl : (insR cc x front.reverse).length = front.length + 1 := by rw [hp.length_eq]; rfl
    have hup : Up key (insR cc x front.reverse) := insR_up cc key (fun y hy => hc x (by simp) y (by simp at hy; simp [hy])) (by rw [List.reverse_reverse]; exact hu)
    have ih := isort_ok m (insR cc x front.reverse) rest (by simpa using h) (fun a ha b hb => hc a (hpa.subset ha) b (hpa.subset hb)) hup
    rw [isort, e, ← hl]
    exact ⟨ih.1, ih.2.trans hpa⟩
/-- all of it -/
theorem isort_all (l : List α) (hc : ∀ x ∈ l, ∀ y ∈ l, cc x y < 0 ↔ key x < key y) : Up key (isort cc (l.length - 1) 1 l) ∧ (isort cc (l.length - 1) 1 l).Perm l := by
  cases l with
  | nil => exact ⟨by simp [isort, Up], .refl _⟩
  | cons a r =>
    have := isort_ok cc key r.length [a] r rfl (by simpa using hc) (by simp [Up])
    simpa using this
/-- lists in order, of the same elements, keys unlike, are one -/
theorem up_one {l m : List α} (hp : l.Perm m) (hl : Up key l) (hm : Up key m) (hn : l.Pairwise fun a b => key a ≠ key b) : l = m := by
  induction l generalizing m with
  | nil => exact (List.nil_perm.1 hp).symm
  | cons a r ih =>
    cases m with
    | nil => exact absurd (List.perm_nil.1 hp) (by simp)
    | cons b q =>
      have ha : a ∈ b :: q := hp.subset (by simp)
      have hb : b ∈ a :: r := hp.symm.subset (by simp)
      have hab : a = b := by
        rcases List.mem_cons.1 ha with h | h
        · exact h
        · rcases List.mem_cons.1 hb with h' | h'
          · exact h'.symm
          · have h1 := (List.pairwise_cons.1 hm).1 a h
            have h2 := (List.pairwise_cons.1 hl).1 b h'
            have h3 := (List.pairwise_cons.1 hn).1 b h'
            omega
      subst hab
      rw [ih (List.Perm.cons_inv hp) (List.pairwise_cons.1 hl).2 (List.pairwise_cons.1 hm).2 (List.pairwise_cons.1 hn).2]
end
end Go.Proofs.Ytjofhegodknmaaa.Ord
