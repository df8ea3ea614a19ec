/- ValueGo, the plain law: the round trip of texts through code points. Mine. -/
import Derived.Test.YtidmlgacfdajjaaPValueGox1
import Derived.Laws.BitsLemmas
import Derived.Laws.Strings
namespace Go.Proofs.Ytidmlgacfdajjaa.GoPure
open Go Go.RowKit Go.Proofs.YtidmlgacfdajjaaW.PrintWords Go.Proofs.YtidmlgacfdajjaaW.PrintLast Go.Proofs.YtidmlgacfdajjaaW.PrintMore Go.Proofs.Ytidmlgacfdajjaa.PValueGo

def bat (l : List UInt8) (k : Nat) : Nat := (l.getD k 0).toNat
def cont (l : List UInt8) (k : Nat) : Bool := decide (k < l.length) && bat l k / 64 == 2
def dec (l : List UInt8) : Nat × Nat :=
  if bat l 0 < 0x80 then (bat l 0, 1)
  else if bat l 0 / 32 == 6 && cont l 1 then
    if (bat l 0 % 32) * 64 + bat l 1 % 64 ≥ 0x80 then ((bat l 0 % 32) * 64 + bat l 1 % 64, 2) else (0xFFFD, 1)
  else if bat l 0 / 16 == 14 && cont l 1 && cont l 2 then
    if (bat l 0 % 16) * 4096 + (bat l 1 % 64) * 64 + bat l 2 % 64 ≥ 0x800 && Utf8.valid (((bat l 0 % 16) * 4096 + (bat l 1 % 64) * 64 + bat l 2 % 64 : Nat) : Int) then ((bat l 0 % 16) * 4096 + (bat l 1 % 64) * 64 + bat l 2 % 64, 3) else (0xFFFD, 1)
  else if bat l 0 / 8 == 30 && cont l 1 && cont l 2 && cont l 3 then
    if (bat l 0 % 8) * 262144 + (bat l 1 % 64) * 4096 + (bat l 2 % 64) * 64 + bat l 3 % 64 ≥ 0x10000 && Utf8.valid (((bat l 0 % 8) * 262144 + (bat l 1 % 64) * 4096 + (bat l 2 % 64) * 64 + bat l 3 % 64 : Nat) : Int) then ((bat l 0 % 8) * 262144 + (bat l 1 % 64) * 4096 + (bat l 2 % 64) * 64 + bat l 3 % 64, 4) else (0xFFFD, 1)
  else (0xFFFD, 1)

theorem get_drop (s : ByteArray) (i k : Nat) : (s.get! (i + k)).toNat = bat (s.data.toList.drop i) k := by
  unfold bat
  congr 1
  obtain ⟨⟨l⟩⟩ := s
  simp [ByteArray.get!, List.getD_eq_getElem?_getD, Array.getElem!_eq_getD, Array.getD_eq_getD_getElem?]
  rfl
theorem cont_drop (s : ByteArray) (i k : Nat) (hi : i < s.size) : (decide (i + k < s.size) && bat (s.data.toList.drop i) k / 64 == 2) = cont (s.data.toList.drop i) k := by
  unfold cont
  congr 1
  have : (s.data.toList.drop i).length = s.size - i := by rw [List.length_drop, data_length]
  rw [this]
  exact decide_eq_decide.mpr ⟨fun h => by omega, fun h => by omega⟩
theorem decode_is (s : ByteArray) (i : Nat) (hi : i < s.size) : Utf8.decode s i = dec (s.data.toList.drop i) := by
  unfold Utf8.decode dec
  simp only [get_drop, cont_drop s i _ hi]
  rfl

theorem bat_lt (l : List UInt8) (k : Nat) : bat l k < 256 := by
  unfold bat
  have := (l.getD k 0).toNat_lt
  omega
theorem bt_is (x : ByteArray) (i : Int) : bt x i = (bat x.data.toList i.toNat : Int) := by
  unfold bt bat
  obtain ⟨⟨l⟩⟩ := x
  split
  · next h =>
    have h' : i.toNat < l.length := h
    simp [List.getD_eq_getElem?_getD, List.getElem?_eq_getElem h']
    rfl
  · next h =>
    have h' : ¬ i.toNat < l.length := h
    simp [List.getD_eq_getElem?_getD, List.getElem?_eq_none (by omega : l.length ≤ i.toNat)]

theorem enc_at (r : Nat) (hv : Utf8.valid (r : Int) = true) : (Utf8.encode (r : Int)).data.toList = if r < 0x80 then [UInt8.ofNat r] else if r < 0x800 then [UInt8.ofNat (0xC0 + r / 64), UInt8.ofNat (0x80 + r % 64)]
    else if r < 0x10000 then [UInt8.ofNat (0xE0 + r / 4096), UInt8.ofNat (0x80 + r / 64 % 64), UInt8.ofNat (0x80 + r % 64)]
    else [UInt8.ofNat (0xF0 + r / 262144), UInt8.ofNat (0x80 + r / 4096 % 64), UInt8.ofNat (0x80 + r / 64 % 64), UInt8.ofNat (0x80 + r % 64)] := by
  unfold Utf8.encode
  simp only [hv, if_true, Int.toNat_natCast]
  repeat' split
  all_goals rfl
theorem enc_bad : (Utf8.encode (0xFFFD : Int)).data.toList.length = 3 := by decide
theorem valid_lt {r : Nat} (h : r < 0xD800) : Utf8.valid (r : Int) = true := by simp [Utf8.valid]; omega
theorem u8_is (a : UInt8) (n : Nat) (h : n = a.toNat) : UInt8.ofNat n = a := by subst h; exact UInt8.ofNat_toNat

/-- What is decoded is good, or it is one bad byte. -/
def good (l : List UInt8) : Bool := !(decide (dec l = (0xFFFD, 1)))
theorem take1 {l : List UInt8} (h : l ≠ []) : l.take 1 = [l.getD 0 0] := by
  match l, h with
  | a :: t, _ => rfl
theorem take2 {l : List UInt8} (h : 1 < l.length) : l.take 2 = [l.getD 0 0, l.getD 1 0] := by
  match l, h with
  | a :: b :: t, _ => rfl
theorem take3 {l : List UInt8} (h : 2 < l.length) : l.take 3 = [l.getD 0 0, l.getD 1 0, l.getD 2 0] := by
  match l, h with
  | a :: b :: c :: t, _ => rfl
theorem take4 {l : List UInt8} (h : 3 < l.length) : l.take 4 = [l.getD 0 0, l.getD 1 0, l.getD 2 0, l.getD 3 0] := by
  match l, h with
  | a :: b :: c :: d :: t, _ => rfl
theorem cont_is {l : List UInt8} {k : Nat} (h : cont l k = true) : k < l.length ∧ bat l k / 64 = 2 := by
  simpa [cont] using h

theorem dec_good (l : List UInt8) (h : l ≠ []) (hg : good l = true) : (Utf8.encode ((dec l).1 : Int)).data.toList = l.take (dec l).2 ∧ 1 ≤ (dec l).2 ∧ (dec l).2 ≤ l.length := by
  have l1 : 0 < l.length := List.length_pos_iff.mpr h
  have q0 := bat_lt l 0
  have q1 := bat_lt l 1
  have q2 := bat_lt l 2
  have q3 := bat_lt l 3
  revert hg
  unfold good dec
  split
  · next c =>
    intro _
    refine ⟨?_, Nat.le_refl _, l1⟩
    simp only
    rw [enc_at _ (valid_lt (by omega)), if_pos c, take1 h, u8_is (l.getD 0 0) _ (by show _ = bat l 0; omega)]
  · next c0 =>
    split
    · next c =>
      simp only [Bool.and_eq_true, beq_iff_eq] at c
      have k1 := cont_is c.2
      split
      · next d =>
        intro _
        refine ⟨?_, by simp only; omega, by simp only; omega⟩
        simp only
        rw [enc_at _ (valid_lt (by omega)), if_neg (by omega), if_pos (by omega), take2 k1.1, u8_is (l.getD 0 0) _ (by show _ = bat l 0; omega), u8_is (l.getD 1 0) _ (by show _ = bat l 1; omega)]
      · simp
    · next c1 =>
      split
      · next c =>
        simp only [Bool.and_eq_true, beq_iff_eq] at c
        have k1 := cont_is c.1.2
        have k2 := cont_is c.2
        split
        · next d =>
          intro _
          simp only [Bool.and_eq_true, decide_eq_true_eq] at d
          refine ⟨?_, by simp only; omega, by simp only; omega⟩
          simp only
          rw [enc_at _ d.2, if_neg (by omega), if_neg (by omega), if_pos (by omega), take3 k2.1, u8_is (l.getD 0 0) _ (by show _ = bat l 0; omega), u8_is (l.getD 1 0) _ (by show _ = bat l 1; omega), u8_is (l.getD 2 0) _ (by show _ = bat l 2; omega)]
        · simp
      · next c2 =>
        split
        · next c =>
          simp only [Bool.and_eq_true, beq_iff_eq] at c
          have k1 := cont_is c.1.1.2
          have k2 := cont_is c.1.2
          have k3 := cont_is c.2
          split
          · next d =>
            intro _
            simp only [Bool.and_eq_true, decide_eq_true_eq] at d
            refine ⟨?_, by simp only; omega, by simp only; omega⟩
            simp only
            rw [enc_at _ d.2, if_neg (by omega), if_neg (by omega), if_neg (by omega), take4 k3.1, u8_is (l.getD 0 0) _ (by show _ = bat l 0; omega), u8_is (l.getD 1 0) _ (by show _ = bat l 1; omega), u8_is (l.getD 2 0) _ (by show _ = bat l 2; omega), u8_is (l.getD 3 0) _ (by show _ = bat l 3; omega)]
          · simp
        · simp
theorem dec_bad (l : List UInt8) (hg : good l = false) : dec l = (0xFFFD, 1) := by
  simpa [good] using hg

/-- The code points, and whether all is good. -/
def decs : Nat → List UInt8 → List Int
  | 0, _ => []
  | f + 1, l => if l.isEmpty then [] else ((dec l).1 : Int) :: decs f (l.drop (dec l).2)
def goods : Nat → List UInt8 → Bool
  | 0, _ => true
  | f + 1, l => if l.isEmpty then true else good l && goods f (l.drop (dec l).2)
def back (ns : List Int) : List UInt8 := ns.flatMap fun n => (Utf8.encode n).data.toList
theorem back_cons (n : Int) (ns : List Int) : back (n :: ns) = (Utf8.encode n).data.toList ++ back ns := rfl
theorem trip : ∀ (f : Nat) (l : List UInt8), l.length ≤ f → (goods f l = true → back (decs f l) = l) ∧ (goods f l = false → l.length < (back (decs f l)).length)
  | 0, l, h => by
    have : l = [] := List.eq_nil_of_length_eq_zero (by omega)
    subst this
    exact ⟨fun _ => rfl, fun h => by simp [goods] at h⟩
  | f + 1, l, h => by
    unfold goods decs
    cases l with
    | nil => exact ⟨fun _ => rfl, fun h => by simp at h⟩
    | cons a t =>
      simp only [List.isEmpty_cons, if_false, Bool.false_eq_true]
      cases hg : good (a :: t) with
      | true =>
        obtain ⟨e, n1, n2⟩ := dec_good (a :: t) (by simp) hg
        obtain ⟨i1, i2⟩ := trip f ((a :: t).drop (dec (a :: t)).2) (by rw [List.length_drop]; omega)
        simp only [Bool.true_and]
        rw [back_cons, e]
        refine ⟨fun hh => by rw [i1 hh]; exact List.take_append_drop _ _, fun hh => ?_⟩
        have := i2 hh
        rw [List.length_drop] at this
        rw [List.length_append, List.length_take]
        omega
      | false =>
        have hd := dec_bad _ hg
        obtain ⟨i1, i2⟩ := trip f ((a :: t).drop (dec (a :: t)).2) (by rw [List.length_drop, hd]; simp only [List.length_cons] at h ⊢; omega)
        simp only [Bool.false_and]
        refine ⟨fun hh => by simp at hh, fun _ => ?_⟩
        rw [back_cons, hd, List.length_append, show (((0xFFFD, 1) : Nat × Nat).1 : Int) = 0xFFFD from rfl, enc_bad]
        rw [hd] at i1 i2
        simp only [List.drop_succ_cons, List.drop_zero, List.length_cons] at i1 i2 ⊢
        cases hh : goods f t with
        | true => rw [i1 hh]; omega
        | false => have := i2 hh; omega
theorem trip_eq (l : List UInt8) : (back (decs l.length l) == l) = goods l.length l := by
  obtain ⟨h1, h2⟩ := trip l.length l (Nat.le_refl _)
  cases h : goods l.length l with
  | true => rw [h1 h]; exact beq_self_eq_true _
  | false =>
    have := h2 h
    exact beq_eq_false_iff_ne.mpr fun e => by rw [e] at this; omega
/-! ### What the program's own reading of a text says -/
theorem mask2 : ∀ c : Fin 256, bits .and .i32 (wrap32 ((c.val : Nat) : Int)) (shr .i32 127 2) = ((c.val % 32 : Nat) : Int) := by decide +kernel
theorem mask3 : ∀ c : Fin 256, bits .and .i32 (wrap32 ((c.val : Nat) : Int)) (shr .i32 127 3) = ((c.val % 16 : Nat) : Int) := by decide +kernel
theorem mask4 : ∀ c : Fin 256, bits .and .i32 (wrap32 ((c.val : Nat) : Int)) (shr .i32 127 4) = ((c.val % 8 : Nat) : Int) := by decide +kernel
theorem wrap32_id (n : Int) (h0 : -2147483648 ≤ n) (h1 : n < 2147483648) : wrap32 n = n := by unfold wrap32; omega
theorem join (r y : Nat) (hr : r < 33554432) (hy : y < 256) : bits .or .i32 (wrap32 ((r : Int) * 64)) (wrap32 (bits .and .u8 (y : Int) 63)) = ((r * 64 + y % 64 : Nat) : Int) := by
  rw [u8_and63 _ (by omega) (by omega), wrap32_id _ (by omega) (by omega), wrap32_id _ (by omega) (by omega), i32_or6 _ _ (by omega) (by omega) (by omega) (by omega) (by omega)]
  omega
def fin (n least r : Nat) : Option Int := if r < least then some 0 else if r > 1114111 then some 0 else if r ≥ 55296 then (if r ≤ 57343 then some 0 else some (n : Int)) else some (n : Int)
theorem l0_out (k : Nat) (x : ByteArray) (n least r : Nat) : value_size.l0 (k + 1) x (n : Int) (least : Int) (r : Int) (n : Int) = fin n least r := by
  unfold fin
  simp only [value_size.l0]
  rw [if_neg (by omega)]
  repeat' split
  all_goals first | rfl | (exfalso; omega)
theorem l0_in (k : Nat) (x : ByteArray) (n least r i : Nat) (hi : i < n) (hn : n < 100) (hx : i < x.size) (hr : r < 33554432) : value_size.l0 (k + 1) x (n : Int) (least : Int) (r : Int) (i : Int) =
    if bat x.data.toList i / 64 = 2 then value_size.l0 k x (n : Int) (least : Int) ((r * 64 + bat x.data.toList i % 64 : Nat) : Int) ((i + 1 : Nat) : Int) else some 0 := by
  simp only [value_size.l0]
  rw [if_pos (by omega), if_pos (by omega), if_pos (by omega), bt_is]
  simp only [Int.toNat_natCast]
  have hb := bat_lt x.data.toList i
  rw [join r _ hr hb, show wrap64 ((i : Int) + 1) = ((i + 1 : Nat) : Int) by unfold wrap64; omega]
  split
  · next h => rw [if_pos (by omega)]
  · next h => rw [if_neg (by omega)]
theorem j0_is (k : Nat) (x : ByteArray) (c n least : Nat) (hn : 1 < n) : value_size.j0 (k + 3) x (c : Int) (n : Int) (least : Int) =
    if x.size < n then some 0 else value_size.l0 (k + 1) x (n : Int) (least : Int) (bits .and .i32 (wrap32 (c : Int)) (shr .i32 127 (n : Int))) 1 := by
  rw [show k + 3 = (k + 2) + 1 from rfl]
  simp only [value_size.j0]
  rw [if_neg (by omega)]
  rw [show k + 2 = (k + 1) + 1 from rfl]
  simp only [value_size.j1]
  split
  · next h =>
    have h' := of_decide_eq_true h
    rw [if_pos (by omega)]
  · next h =>
    have h' : ¬ ((x.size : Int) < (n : Int)) := fun e => h (decide_eq_true e)
    rw [if_pos (by omega), if_neg (by omega)]

def want (l : List UInt8) : Int := if good l then ((dec l).2 : Int) else 0
theorem want_good {l : List UInt8} {r n : Nat} (h : dec l = (r, n)) (hn : n ≠ 1 ∨ r ≠ 0xFFFD) : want l = n := by
  unfold want good
  rw [h, if_pos]
  simp
  omega
theorem want_bad {l : List UInt8} (h : dec l = (0xFFFD, 1)) : want l = 0 := by
  unfold want good
  rw [h]
  rfl
theorem nocont {l : List UInt8} {k : Nat} (h : ¬ (k < l.length ∧ bat l k / 64 = 2)) : cont l k = false := by
  cases hc : cont l k with
  | false => rfl
  | true => exact absurd (cont_is hc) h
theorem yescont {l : List UInt8} {k : Nat} (h1 : k < l.length) (h2 : bat l k / 64 = 2) : cont l k = true := by
  simp [cont, h1, h2]

theorem size_eq (k : Nat) (x : ByteArray) (hx : 0 < x.size) : value_size.f (k + 8) x = some (want x.data.toList) := by
  have hl : x.data.toList.length = x.size := data_length x
  generalize hL : x.data.toList = l at hl
  have q0 := bat_lt l 0
  have q1 := bat_lt l 1
  have q2 := bat_lt l 2
  have q3 := bat_lt l 3
  unfold value_size.f
  have hb : bt x 0 = (bat l 0 : Int) := by rw [bt_is, hL]; rfl
  rw [if_pos (by omega), hb]
  by_cases c0 : bat l 0 < 128
  · rw [if_pos (by omega)]
    congr 1
    exact (want_good (r := bat l 0) (n := 1) (by unfold dec; rw [if_pos c0]) (.inr (by omega))).symm
  rw [if_neg (by omega)]
  by_cases c1 : bat l 0 / 32 = 6
  · rw [if_pos (by omega), show k + 8 = (k + 5) + 3 from rfl, show (2 : Int) = ((2 : Nat) : Int) from rfl, show (128 : Int) = ((128 : Nat) : Int) from rfl, j0_is _ _ _ _ _ (by omega)]
    have bad : cont l 1 = false → want l = 0 := fun h => want_bad (by
      unfold dec
      rw [if_neg c0, if_neg (by rw [h]; simp), if_neg (by simp; omega), if_neg (by simp; omega)])
    split
    · rw [bad (nocont (by omega))]
    · next s =>
      rw [show ((2 : Nat) : Int) = 2 from rfl, mask2 ⟨bat l 0, q0⟩]
      rw [show (2 : Int) = ((2 : Nat) : Int) from rfl, show (1 : Int) = ((1 : Nat) : Int) from rfl, l0_in _ _ _ _ _ _ (by omega) (by omega) (by omega) (by simp only; omega), hL]
      simp only
      split
      · next d1 =>
        rw [l0_out]
        have hd : dec l = if (bat l 0 % 32) * 64 + bat l 1 % 64 ≥ 0x80 then ((bat l 0 % 32) * 64 + bat l 1 % 64, 2) else (0xFFFD, 1) := by
          unfold dec
          rw [if_neg c0, if_pos (by rw [yescont (by omega) d1]; simp [c1])]
        unfold fin
        split
        · rw [want_bad (by rw [hd, if_neg (by omega)])]
        · rw [if_neg (by omega), if_neg (by omega), want_good (n := 2) (by rw [hd, if_pos (by omega)]) (.inl (by decide))]
      · next d1 => rw [bad (nocont (fun e => d1 e.2))]
  rw [if_neg (by omega)]
  by_cases c2 : bat l 0 / 16 = 14
  · rw [if_pos (by omega), show k + 8 = (k + 5) + 3 from rfl, show (3 : Int) = ((3 : Nat) : Int) from rfl, show (2048 : Int) = ((2048 : Nat) : Int) from rfl, j0_is _ _ _ _ _ (by omega)]
    have bad : (cont l 1 && cont l 2) = false → want l = 0 := fun h => want_bad (by
      unfold dec
      rw [if_neg c0, if_neg (by simp; omega), if_neg (by rw [Bool.and_assoc, h]; simp), if_neg (by simp; omega)])
    split
    · rw [bad (by rw [nocont (k := 2) (by omega)]; simp)]
    · next s =>
      rw [show ((3 : Nat) : Int) = 3 from rfl, mask3 ⟨bat l 0, q0⟩]
      rw [show (3 : Int) = ((3 : Nat) : Int) from rfl, show (1 : Int) = ((1 : Nat) : Int) from rfl, l0_in _ _ _ _ _ _ (by omega) (by omega) (by omega) (by simp only; omega), hL]
      simp only
      split
      · next d1 =>
        rw [l0_in _ _ _ _ _ _ (by omega) (by omega) (by omega) (by omega), hL]
        split
        · next d2 =>
          rw [l0_out]
          have hd : dec l = if (bat l 0 % 16) * 4096 + (bat l 1 % 64) * 64 + bat l 2 % 64 ≥ 0x800 && Utf8.valid (((bat l 0 % 16) * 4096 + (bat l 1 % 64) * 64 + bat l 2 % 64 : Nat) : Int) then ((bat l 0 % 16) * 4096 + (bat l 1 % 64) * 64 + bat l 2 % 64, 3) else (0xFFFD, 1) := by
            unfold dec
            rw [if_neg c0, if_neg (by simp; omega), if_pos (by rw [yescont (by omega) d1, yescont (by omega) d2]; simp [c2])]
          rw [show (bat l 0 % 16 * 64 + bat l 1 % 64) * 64 + bat l 2 % 64 = (bat l 0 % 16) * 4096 + (bat l 1 % 64) * 64 + bat l 2 % 64 by omega]
          have hlt : (bat l 0 % 16) * 4096 + (bat l 1 % 64) * 64 + bat l 2 % 64 < 65536 := by omega
          generalize (bat l 0 % 16) * 4096 + (bat l 1 % 64) * 64 + bat l 2 % 64 = r at hd hlt
          unfold fin
          split
          · rw [want_bad (by rw [hd, if_neg (by simp; omega)])]
          · rw [if_neg (by omega)]
            split
            · split
              · rw [want_bad (by rw [hd, if_neg (by simp [Utf8.valid]; omega)])]
              · rw [want_good (n := 3) (by rw [hd, if_pos (by simp [Utf8.valid]; omega)]) (.inl (by decide))]
            · rw [want_good (n := 3) (by rw [hd, if_pos (by simp [Utf8.valid]; omega)]) (.inl (by decide))]
        · next d2 => rw [bad (by rw [nocont (k := 2) (fun e => d2 e.2)]; simp)]
      · next d1 => rw [bad (by rw [nocont (k := 1) (fun e => d1 e.2)]; simp)]
  rw [if_neg (by omega)]
  by_cases c3 : bat l 0 / 8 = 30
  · rw [if_pos (by omega), show k + 8 = (k + 5) + 3 from rfl, show (4 : Int) = ((4 : Nat) : Int) from rfl, show (65536 : Int) = ((65536 : Nat) : Int) from rfl, j0_is _ _ _ _ _ (by omega)]
    have bad : (cont l 1 && cont l 2 && cont l 3) = false → want l = 0 := fun h => want_bad (by
      unfold dec
      rw [if_neg c0, if_neg (by simp; omega), if_neg (by simp; omega), if_neg (by rw [Bool.and_assoc, Bool.and_assoc, ← Bool.and_assoc (cont l 1), h]; simp)])
    split
    · rw [bad (by rw [nocont (k := 3) (by omega)]; simp)]
    · next s =>
      rw [show ((4 : Nat) : Int) = 4 from rfl, mask4 ⟨bat l 0, q0⟩]
      rw [show (4 : Int) = ((4 : Nat) : Int) from rfl, show (1 : Int) = ((1 : Nat) : Int) from rfl, l0_in _ _ _ _ _ _ (by omega) (by omega) (by omega) (by simp only; omega), hL]
      simp only
      split
      · next d1 =>
        rw [l0_in _ _ _ _ _ _ (by omega) (by omega) (by omega) (by omega), hL]
        split
        · next d2 =>
          rw [l0_in _ _ _ _ _ _ (by omega) (by omega) (by omega) (by omega), hL]
          split
          · next d3 =>
            rw [l0_out]
            have hd : dec l = if (bat l 0 % 8) * 262144 + (bat l 1 % 64) * 4096 + (bat l 2 % 64) * 64 + bat l 3 % 64 ≥ 0x10000 && Utf8.valid (((bat l 0 % 8) * 262144 + (bat l 1 % 64) * 4096 + (bat l 2 % 64) * 64 + bat l 3 % 64 : Nat) : Int) then ((bat l 0 % 8) * 262144 + (bat l 1 % 64) * 4096 + (bat l 2 % 64) * 64 + bat l 3 % 64, 4) else (0xFFFD, 1) := by
              unfold dec
              rw [if_neg c0, if_neg (by simp; omega), if_neg (by simp; omega), if_pos (by rw [yescont (by omega) d1, yescont (by omega) d2, yescont (by omega) d3]; simp [c3])]
            rw [show ((bat l 0 % 8 * 64 + bat l 1 % 64) * 64 + bat l 2 % 64) * 64 + bat l 3 % 64 = (bat l 0 % 8) * 262144 + (bat l 1 % 64) * 4096 + (bat l 2 % 64) * 64 + bat l 3 % 64 by omega]
            generalize (bat l 0 % 8) * 262144 + (bat l 1 % 64) * 4096 + (bat l 2 % 64) * 64 + bat l 3 % 64 = r at hd
            unfold fin
            split
            · rw [want_bad (by rw [hd, if_neg (by simp; omega)])]
            · split
              · rw [want_bad (by rw [hd, if_neg (by simp [Utf8.valid]; omega)])]
              · split
                · split
                  · rw [want_bad (by rw [hd, if_neg (by simp [Utf8.valid]; omega)])]
                  · rw [want_good (n := 4) (by rw [hd, if_pos (by simp [Utf8.valid]; omega)]) (.inl (by decide))]
                · rw [want_good (n := 4) (by rw [hd, if_pos (by simp [Utf8.valid]; omega)]) (.inl (by decide))]
          · next d3 => rw [bad (by rw [nocont (k := 3) (fun e => d3 e.2)]; simp)]
        · next d2 => rw [bad (by rw [nocont (k := 2) (fun e => d2 e.2)]; simp)]
      · next d1 => rw [bad (by rw [nocont (k := 1) (fun e => d1 e.2)]; simp)]
  rw [if_neg (by omega)]
  rw [show k + 8 = ((k + 6) + 1) + 1 from rfl]
  simp only [value_size.j0, value_size.j1, if_true]
  rw [want_bad (by
    unfold dec
    rw [if_neg c0, if_neg (by simp; omega), if_neg (by simp; omega), if_neg (by simp; omega)])]

theorem valid_eq : ∀ (f : Nat) (x : ByteArray), x.size ≤ f → value_Valid.f (f + 9) x = some (goods f x.data.toList) := by
  unfold value_Valid.f
  intro f
  induction f with
  | zero =>
    intro x h
    have : x.data.toList = [] := List.eq_nil_of_length_eq_zero (by rw [data_length]; omega)
    rw [show 0 + 9 = 8 + 1 from rfl]
    simp only [value_Valid.l0]
    rw [if_pos (by rw [ByteArray.toList_eq, this]), this]
    rfl
  | succ f ih =>
    intro x h
    rw [show f + 1 + 9 = (f + 9) + 1 from rfl]
    rw [value_Valid.l0]
    unfold goods
    by_cases hx : x.data.toList = []
    · rw [if_pos (by rw [ByteArray.toList_eq, hx]), hx]
      rfl
    · have h0 : 0 < x.size := by rw [← data_length]; exact List.length_pos_iff.mpr hx
      rw [if_neg (by rw [ByteArray.toList_eq]; exact hx), show f + 9 = (f + 1) + 8 from rfl, size_eq _ x h0, if_neg (by simpa using hx)]
      simp only [Option.bind_some]
      cases hg : good x.data.toList with
      | false =>
        rw [if_pos (want_bad (dec_bad _ hg))]
        simp
      | true =>
        obtain ⟨_, n1, n2⟩ := dec_good _ hx hg
        have hw : want x.data.toList = ((dec x.data.toList).2 : Int) := by unfold want; rw [hg]; rfl
        rw [data_length] at n2
        rw [hw, if_neg (by omega), if_pos (by omega), if_pos (by omega)]
        simp only [Int.toNat_natCast]
        have hs : (x.extract (dec x.data.toList).2 x.size).data.toList = x.data.toList.drop (dec x.data.toList).2 := by
          rw [ByteArray.data_extract, Array.toList_extract]
          simp [List.extract_eq_take_drop]
          rw [← data_length]
          exact List.take_of_length_le (by simp)
        have := ih (x.extract (dec x.data.toList).2 x.size) (by rw [← data_length, hs, List.length_drop, data_length]; omega)
        rw [show f + 1 + 8 = f + 9 from rfl, this, hs]
        simp
end Go.Proofs.Ytidmlgacfdajjaa.GoPure
