/- Of a struct just the fields that the other one has stay: the law's loop, all rounds. Mine. -/
import Derived.Test.YtjofhegodknmaaaSayDropsRound
set_option linter.unusedVariables false
set_option linter.unusedSimpArgs false
namespace Go.Proofs.Ytjofhegodknmaaa.Say
open Go Go.RowKit
open V (D)

theorem shapeDB : dB = .seq d10 (.seq (.seq d11 (.cond (.tmp 44) d12 .skip)) (.seq d13 (.cond (.tmp 62) dV .skip))) := by kernel_rfl
/-- what a list of truths says of a number -/
def Kn (k : D) (i : Nat) (b : Bool) : Prop := (∃ L, k = .lst L ∧ L[i]? = some (.bool b)) ∨ (∃ L, k = .lst L ∧ L.length ≤ i ∧ b = false) ∨ (k = .nil ∧ b = false)
theorem g10 {st : V.Store} {nx : Nat} {h k : D} {n : Int} {i : Nat} {b : Bool} (hc : Cl st nx) (hk : Kn k i b) : V.Run Try.prog d10 ⟨tD h k n i .junk .junk, st, nx⟩ .normal ⟨tD h k n i (.dat (.bool b)) .junk, st, nx⟩ := by
  rcases hk with ⟨L, rfl, hl⟩ | ⟨L, rfl, hl, rfl⟩ | ⟨rfl, rfl⟩
  · exact dg10_in hc hl
  · exact dg10_out hc hl
  · exact dg10_nil hc
theorem g13 {st : V.Store} {nx : Nat} {h k : D} {n : Int} {i : Nat} {b : Bool} (hc : Cl st nx) {t11 : V.U} (h11 : V.refs t11 = []) (hk : Kn h i b) : V.Run Try.prog d13 ⟨tD h k n i t11 .junk, st, nx⟩ .normal ⟨tE h k n i t11 .junk 49 (.dat (.bool b)), st, nx⟩ := by
  rcases hk with ⟨L, rfl, hl⟩ | ⟨L, rfl, hl, rfl⟩ | ⟨rfl, rfl⟩
  · exact dg13_in hc t11 h11 hl
  · exact dg13_out hc t11 h11 hl
  · exact dg13_nil hc t11 h11
theorem at44 (h k : D) (n : Int) (i : Nat) (t11 t12 : V.U) (b : Bool) : V.evalU (tE h k n i t11 t12 31 (.dat (.bool b))) (.tmp 44) = some (.dat (.bool b)) := by kernel_rfl
theorem at62 (h k : D) (n : Int) (i : Nat) (t11 t12 : V.U) (b : Bool) : V.evalU (tE h k n i t11 t12 49 (.dat (.bool b))) (.tmp 62) = some (.dat (.bool b)) := by kernel_rfl
theorem dB_run {h k : D} {n : Int} {i : Nat} {b1 b2 : Bool} {stA stB stC : V.Store} {nA nB nC : Nat} (hA : Cl stA nA) (hB : Cl stB nB) (k1 : Kn k i b1) (k2 : Kn h i b2)
    (r12 : V.Run Try.prog (cond b1 d12 .skip) ⟨tD h k n i (.dat (.bool b1)) .junk, stA, nA⟩ .normal ⟨tD h k n i (.dat (.bool b1)) .junk, stB, nB⟩)
    (rV : V.Run Try.prog (cond b2 dV .skip) ⟨tD h k n i (.dat (.bool b1)) .junk, stB, nB⟩ .normal ⟨tD h k n i (.dat (.bool b1)) .junk, stC, nC⟩) :
    V.Run Try.prog dB ⟨tD h k n i .junk .junk, stA, nA⟩ .normal ⟨tD h k n i (.dat (.bool b1)) .junk, stC, nC⟩ := by
  rw [shapeDB]
  refine V.Run.seq (g10 hA k1) (V.Run.seq (V.Run.seq (dg11 hA b1) ?_) (V.Run.seq (g13 (k := k) (n := n) (t11 := .dat (.bool b1)) hB rfl k2) ?_))
  · cases b1 with
    | true => exact V.Run.cond_true (at44 ..) (less_tE r12 (by decide))
    | false => exact V.Run.cond_false (at44 ..) (less_tE r12 (by decide))
  · cases b2 with
    | true => exact V.Run.cond_true (at62 ..) (less_tE rV (by decide))
    | false => exact V.Run.cond_false (at62 ..) (less_tE rV (by decide))
theorem Sh.round {n : Int} (hn : -128 ≤ n ∧ n ≤ 127) {st : V.Store} {nx : Nat} {xs vs ws : List Int} (hs : Sh n st nx xs vs ws) {h k : D} {i : Nat} {z : Int} (hz : z = (i : Int) - 3) (hi : i < 1000) (hx : xs.length < 1000) (hv : vs.length < 1000) (hw : ws.length < 1000) {b1 b2 : Bool} (k1 : Kn k i b1) (k2 : Kn h i b2) :
    ∃ st' nx', Sh n st' nx' (cond b1 (xs ++ [z]) xs) (cond b2 (vs ++ [z]) vs) (cond (b1 && b2) (ws ++ [z]) ws) ∧ V.Run Try.prog dB ⟨tD h k n i .junk .junk, st, nx⟩ .normal ⟨tD h k n i (.dat (.bool b1)) .junk, st', nx'⟩ := by
  have hcA := hs.cl
  cases hs with
  | @s0  =>
    cases b1 with
    | false =>
      cases b2 with
      | false => exact ⟨_, _, (Sh.s0), dB_run (b1 := false) (b2 := false) hcA hcA k1 k2 (V.Run.skip (goodE V.sig0) regs follows) (V.Run.skip (goodE V.sig0) regs follows)⟩
      | true => exact ⟨_, _, (Sh.s2 (vs := [z]) (b := 0) rfl), dB_run (b1 := false) (b2 := true) hcA hcA k1 k2 (V.Run.skip (goodE V.sig0) regs follows) (dVf_0 hn hz hi (xs := []) (a := 0) (vs := []) (b := 0) (ws := []) (c := 0) )⟩
    | true =>
      cases b2 with
      | false => exact ⟨_, _, (Sh.s1 (xs := [z]) (a := 0) rfl), dB_run (b1 := true) (b2 := false) hcA (Sh.cl (n := n) (Sh.s1 (xs := [z]) (a := 0) rfl)) k1 k2 (dr12_0 (xs := []) (a := 0) (vs := []) (b := 0) (ws := []) (c := 0) i z hz hi h k n ) (V.Run.skip (goodE V.sig0) regs follows)⟩
      | true => exact ⟨_, _, (Sh.s5 (xs := [z]) (a := 0) (vs := [z]) (b := 0) (ws := [z]) (c := 0) rfl rfl rfl), dB_run (b1 := true) (b2 := true) hcA (Sh.cl (n := n) (Sh.s1 (xs := [z]) (a := 0) rfl)) k1 k2 (dr12_0 (xs := []) (a := 0) (vs := []) (b := 0) (ws := []) (c := 0) i z hz hi h k n ) (dVt_1 hn hz hi (xs := [z]) (a := 0) (vs := []) (b := 0) (ws := []) (c := 0)  )⟩
  | @s1 xs a ha =>
    cases b1 with
    | false =>
      cases b2 with
      | false => exact ⟨_, _, (Sh.s1 (xs := xs) (a := a) ha), dB_run (b1 := false) (b2 := false) hcA hcA k1 k2 (V.Run.skip (goodE V.sig0) regs follows) (V.Run.skip (goodE V.sig0) regs follows)⟩
      | true => exact ⟨_, _, (Sh.s3 (xs := xs) (a := a) (vs := [z]) (b := 0) ha rfl), dB_run (b1 := false) (b2 := true) hcA hcA k1 k2 (V.Run.skip (goodE V.sig0) regs follows) (dVf_1 hn hz hi (xs := xs) (a := a) (vs := []) (b := 0) (ws := []) (c := 0) )⟩
    | true =>
      cases b2 with
      | false => exact ⟨_, _, (Sh.s1 (xs := (xs ++ [z])) (a := a + 1) (by rw [List.length_append, ha]; rfl)), dB_run (b1 := true) (b2 := false) hcA (Sh.cl (n := n) (Sh.s1 (xs := (xs ++ [z])) (a := a + 1) (by rw [List.length_append, ha]; rfl))) k1 k2 (dr12_1 (xs := xs) (a := a) (vs := []) (b := 0) (ws := []) (c := 0) i z hz hi h k n ha (by omega)) (V.Run.skip (goodE V.sig0) regs follows)⟩
      | true => exact ⟨_, _, (Sh.s5 (xs := (xs ++ [z])) (a := a + 1) (vs := [z]) (b := 0) (ws := [z]) (c := 0) (by rw [List.length_append, ha]; rfl) rfl rfl), dB_run (b1 := true) (b2 := true) hcA (Sh.cl (n := n) (Sh.s1 (xs := (xs ++ [z])) (a := a + 1) (by rw [List.length_append, ha]; rfl))) k1 k2 (dr12_1 (xs := xs) (a := a) (vs := []) (b := 0) (ws := []) (c := 0) i z hz hi h k n ha (by omega)) (dVt_1 hn hz hi (xs := (xs ++ [z])) (a := a + 1) (vs := []) (b := 0) (ws := []) (c := 0)  )⟩
  | @s2 vs b hb =>
    cases b1 with
    | false =>
      cases b2 with
      | false => exact ⟨_, _, (Sh.s2 (vs := vs) (b := b) hb), dB_run (b1 := false) (b2 := false) hcA hcA k1 k2 (V.Run.skip (goodE V.sig0) regs follows) (V.Run.skip (goodE V.sig0) regs follows)⟩
      | true => exact ⟨_, _, (Sh.s2 (vs := (vs ++ [z])) (b := b + 1) (by rw [List.length_append, hb]; rfl)), dB_run (b1 := false) (b2 := true) hcA hcA k1 k2 (V.Run.skip (goodE V.sig0) regs follows) (dVf_2 hn hz hi (xs := []) (a := 0) (vs := vs) (b := b) (ws := []) (c := 0) hb (by omega))⟩
    | true =>
      cases b2 with
      | false => exact ⟨_, _, (Sh.s4 (xs := [z]) (a := 0) (vs := vs) (b := b) rfl hb), dB_run (b1 := true) (b2 := false) hcA (Sh.cl (n := n) (Sh.s4 (xs := [z]) (a := 0) (vs := vs) (b := b) rfl hb)) k1 k2 (dr12_2 (xs := []) (a := 0) (vs := vs) (b := b) (ws := []) (c := 0) i z hz hi h k n ) (V.Run.skip (goodE V.sig0) regs follows)⟩
      | true => exact ⟨_, _, (Sh.s6 (xs := [z]) (a := 0) (vs := (vs ++ [z])) (b := b + 1) (ws := [z]) (c := 0) rfl (by rw [List.length_append, hb]; rfl) rfl), dB_run (b1 := true) (b2 := true) hcA (Sh.cl (n := n) (Sh.s4 (xs := [z]) (a := 0) (vs := vs) (b := b) rfl hb)) k1 k2 (dr12_2 (xs := []) (a := 0) (vs := vs) (b := b) (ws := []) (c := 0) i z hz hi h k n ) (dVt_4 hn hz hi (xs := [z]) (a := 0) (vs := vs) (b := b) (ws := []) (c := 0) hb (by omega) )⟩
  | @s3 xs a vs b ha hb =>
    cases b1 with
    | false =>
      cases b2 with
      | false => exact ⟨_, _, (Sh.s3 (xs := xs) (a := a) (vs := vs) (b := b) ha hb), dB_run (b1 := false) (b2 := false) hcA hcA k1 k2 (V.Run.skip (goodE V.sig0) regs follows) (V.Run.skip (goodE V.sig0) regs follows)⟩
      | true => exact ⟨_, _, (Sh.s3 (xs := xs) (a := a) (vs := (vs ++ [z])) (b := b + 1) ha (by rw [List.length_append, hb]; rfl)), dB_run (b1 := false) (b2 := true) hcA hcA k1 k2 (V.Run.skip (goodE V.sig0) regs follows) (dVf_3 hn hz hi (xs := xs) (a := a) (vs := vs) (b := b) (ws := []) (c := 0) hb (by omega))⟩
    | true =>
      cases b2 with
      | false => exact ⟨_, _, (Sh.s3 (xs := (xs ++ [z])) (a := a + 1) (vs := vs) (b := b) (by rw [List.length_append, ha]; rfl) hb), dB_run (b1 := true) (b2 := false) hcA (Sh.cl (n := n) (Sh.s3 (xs := (xs ++ [z])) (a := a + 1) (vs := vs) (b := b) (by rw [List.length_append, ha]; rfl) hb)) k1 k2 (dr12_3 (xs := xs) (a := a) (vs := vs) (b := b) (ws := []) (c := 0) i z hz hi h k n ha (by omega)) (V.Run.skip (goodE V.sig0) regs follows)⟩
      | true => exact ⟨_, _, (Sh.s5 (xs := (xs ++ [z])) (a := a + 1) (vs := (vs ++ [z])) (b := b + 1) (ws := [z]) (c := 0) (by rw [List.length_append, ha]; rfl) (by rw [List.length_append, hb]; rfl) rfl), dB_run (b1 := true) (b2 := true) hcA (Sh.cl (n := n) (Sh.s3 (xs := (xs ++ [z])) (a := a + 1) (vs := vs) (b := b) (by rw [List.length_append, ha]; rfl) hb)) k1 k2 (dr12_3 (xs := xs) (a := a) (vs := vs) (b := b) (ws := []) (c := 0) i z hz hi h k n ha (by omega)) (dVt_3 hn hz hi (xs := (xs ++ [z])) (a := a + 1) (vs := vs) (b := b) (ws := []) (c := 0) hb (by omega) )⟩
  | @s4 xs a vs b ha hb =>
    cases b1 with
    | false =>
      cases b2 with
      | false => exact ⟨_, _, (Sh.s4 (xs := xs) (a := a) (vs := vs) (b := b) ha hb), dB_run (b1 := false) (b2 := false) hcA hcA k1 k2 (V.Run.skip (goodE V.sig0) regs follows) (V.Run.skip (goodE V.sig0) regs follows)⟩
      | true => exact ⟨_, _, (Sh.s4 (xs := xs) (a := a) (vs := (vs ++ [z])) (b := b + 1) ha (by rw [List.length_append, hb]; rfl)), dB_run (b1 := false) (b2 := true) hcA hcA k1 k2 (V.Run.skip (goodE V.sig0) regs follows) (dVf_4 hn hz hi (xs := xs) (a := a) (vs := vs) (b := b) (ws := []) (c := 0) hb (by omega))⟩
    | true =>
      cases b2 with
      | false => exact ⟨_, _, (Sh.s4 (xs := (xs ++ [z])) (a := a + 1) (vs := vs) (b := b) (by rw [List.length_append, ha]; rfl) hb), dB_run (b1 := true) (b2 := false) hcA (Sh.cl (n := n) (Sh.s4 (xs := (xs ++ [z])) (a := a + 1) (vs := vs) (b := b) (by rw [List.length_append, ha]; rfl) hb)) k1 k2 (dr12_4 (xs := xs) (a := a) (vs := vs) (b := b) (ws := []) (c := 0) i z hz hi h k n ha (by omega)) (V.Run.skip (goodE V.sig0) regs follows)⟩
      | true => exact ⟨_, _, (Sh.s6 (xs := (xs ++ [z])) (a := a + 1) (vs := (vs ++ [z])) (b := b + 1) (ws := [z]) (c := 0) (by rw [List.length_append, ha]; rfl) (by rw [List.length_append, hb]; rfl) rfl), dB_run (b1 := true) (b2 := true) hcA (Sh.cl (n := n) (Sh.s4 (xs := (xs ++ [z])) (a := a + 1) (vs := vs) (b := b) (by rw [List.length_append, ha]; rfl) hb)) k1 k2 (dr12_4 (xs := xs) (a := a) (vs := vs) (b := b) (ws := []) (c := 0) i z hz hi h k n ha (by omega)) (dVt_4 hn hz hi (xs := (xs ++ [z])) (a := a + 1) (vs := vs) (b := b) (ws := []) (c := 0) hb (by omega) )⟩
  | @s5 xs a vs b ws c ha hb hc =>
    cases b1 with
    | false =>
      cases b2 with
      | false => exact ⟨_, _, (Sh.s5 (xs := xs) (a := a) (vs := vs) (b := b) (ws := ws) (c := c) ha hb hc), dB_run (b1 := false) (b2 := false) hcA hcA k1 k2 (V.Run.skip (goodE V.sig0) regs follows) (V.Run.skip (goodE V.sig0) regs follows)⟩
      | true => exact ⟨_, _, (Sh.s5 (xs := xs) (a := a) (vs := (vs ++ [z])) (b := b + 1) (ws := ws) (c := c) ha (by rw [List.length_append, hb]; rfl) hc), dB_run (b1 := false) (b2 := true) hcA hcA k1 k2 (V.Run.skip (goodE V.sig0) regs follows) (dVf_5 hn hz hi (xs := xs) (a := a) (vs := vs) (b := b) (ws := ws) (c := c) hb (by omega))⟩
    | true =>
      cases b2 with
      | false => exact ⟨_, _, (Sh.s5 (xs := (xs ++ [z])) (a := a + 1) (vs := vs) (b := b) (ws := ws) (c := c) (by rw [List.length_append, ha]; rfl) hb hc), dB_run (b1 := true) (b2 := false) hcA (Sh.cl (n := n) (Sh.s5 (xs := (xs ++ [z])) (a := a + 1) (vs := vs) (b := b) (ws := ws) (c := c) (by rw [List.length_append, ha]; rfl) hb hc)) k1 k2 (dr12_5 (xs := xs) (a := a) (vs := vs) (b := b) (ws := ws) (c := c) i z hz hi h k n ha (by omega)) (V.Run.skip (goodE V.sig0) regs follows)⟩
      | true => exact ⟨_, _, (Sh.s5 (xs := (xs ++ [z])) (a := a + 1) (vs := (vs ++ [z])) (b := b + 1) (ws := (ws ++ [z])) (c := c + 1) (by rw [List.length_append, ha]; rfl) (by rw [List.length_append, hb]; rfl) (by rw [List.length_append, hc]; rfl)), dB_run (b1 := true) (b2 := true) hcA (Sh.cl (n := n) (Sh.s5 (xs := (xs ++ [z])) (a := a + 1) (vs := vs) (b := b) (ws := ws) (c := c) (by rw [List.length_append, ha]; rfl) hb hc)) k1 k2 (dr12_5 (xs := xs) (a := a) (vs := vs) (b := b) (ws := ws) (c := c) i z hz hi h k n ha (by omega)) (dVt_5 hn hz hi (xs := (xs ++ [z])) (a := a + 1) (vs := vs) (b := b) (ws := ws) (c := c) hb (by omega) hc (by omega))⟩
  | @s6 xs a vs b ws c ha hb hc =>
    cases b1 with
    | false =>
      cases b2 with
      | false => exact ⟨_, _, (Sh.s6 (xs := xs) (a := a) (vs := vs) (b := b) (ws := ws) (c := c) ha hb hc), dB_run (b1 := false) (b2 := false) hcA hcA k1 k2 (V.Run.skip (goodE V.sig0) regs follows) (V.Run.skip (goodE V.sig0) regs follows)⟩
      | true => exact ⟨_, _, (Sh.s6 (xs := xs) (a := a) (vs := (vs ++ [z])) (b := b + 1) (ws := ws) (c := c) ha (by rw [List.length_append, hb]; rfl) hc), dB_run (b1 := false) (b2 := true) hcA hcA k1 k2 (V.Run.skip (goodE V.sig0) regs follows) (dVf_6 hn hz hi (xs := xs) (a := a) (vs := vs) (b := b) (ws := ws) (c := c) hb (by omega))⟩
    | true =>
      cases b2 with
      | false => exact ⟨_, _, (Sh.s6 (xs := (xs ++ [z])) (a := a + 1) (vs := vs) (b := b) (ws := ws) (c := c) (by rw [List.length_append, ha]; rfl) hb hc), dB_run (b1 := true) (b2 := false) hcA (Sh.cl (n := n) (Sh.s6 (xs := (xs ++ [z])) (a := a + 1) (vs := vs) (b := b) (ws := ws) (c := c) (by rw [List.length_append, ha]; rfl) hb hc)) k1 k2 (dr12_6 (xs := xs) (a := a) (vs := vs) (b := b) (ws := ws) (c := c) i z hz hi h k n ha (by omega)) (V.Run.skip (goodE V.sig0) regs follows)⟩
      | true => exact ⟨_, _, (Sh.s6 (xs := (xs ++ [z])) (a := a + 1) (vs := (vs ++ [z])) (b := b + 1) (ws := (ws ++ [z])) (c := c + 1) (by rw [List.length_append, ha]; rfl) (by rw [List.length_append, hb]; rfl) (by rw [List.length_append, hc]; rfl)), dB_run (b1 := true) (b2 := true) hcA (Sh.cl (n := n) (Sh.s6 (xs := (xs ++ [z])) (a := a + 1) (vs := vs) (b := b) (ws := ws) (c := c) (by rw [List.length_append, ha]; rfl) hb hc)) k1 k2 (dr12_6 (xs := xs) (a := a) (vs := vs) (b := b) (ws := ws) (c := c) i z hz hi h k n ha (by omega)) (dVt_6 hn hz hi (xs := (xs ++ [z])) (a := a + 1) (vs := vs) (b := b) (ws := ws) (c := c) hb (by omega) hc (by omega))⟩

/-! All rounds. -/
def bD (L : Option (List Bool)) : D := match L with
  | none => .nil
  | some L => .lst (L.map .bool)
def bl (L : Option (List Bool)) : List Bool := L.getD []
theorem kn_bD (L : Option (List Bool)) (i : Nat) : Kn (bD L) i ((bl L).getD i false) := by
  cases L with
  | none => exact .inr (.inr ⟨rfl, by simp [bl]⟩)
  | some L =>
    by_cases hi : i < L.length
    · refine .inl ⟨_, rfl, ?_⟩
      simp [bl, hi]
    · refine .inr (.inl ⟨_, rfl, by simpa using hi, ?_⟩)
      simp [bl, Nat.not_lt.1 hi]
def pick (p : Nat → Bool) (i : Nat) : List Int := ((List.range i).filter p).map fun (j : Nat) => (j : Int) - 3
theorem pick_succ (p : Nat → Bool) (i : Nat) : pick p (i + 1) = cond (p i) (pick p i ++ [(i : Int) - 3]) (pick p i) := by
  unfold pick
  rw [List.range_succ, List.filter_append, List.map_append]
  cases h : p i <;> simp [h]
theorem pick_len (p : Nat → Bool) (i : Nat) : (pick p i).length ≤ i := by
  unfold pick
  rw [List.length_map]
  exact Nat.le_trans (List.length_filter_le _ _) (by simp)
theorem pick_mem (p : Nat → Bool) (i : Nat) (x : Int) : x ∈ pick p i ↔ ∃ j, j < i ∧ p j = true ∧ x = (j : Int) - 3 := by
  unfold pick
  simp only [List.mem_map, List.mem_filter, List.mem_range]
  constructor
  · rintro ⟨j, ⟨hj, hp⟩, rfl⟩
    exact ⟨j, hj, hp, rfl⟩
  · rintro ⟨j, hj, hp, rfl⟩
    exact ⟨j, ⟨hj, hp⟩, rfl⟩
theorem pick_up (p : Nat → Bool) (i : Nat) : (pick p i).Pairwise (· < ·) := by
  induction i with
  | zero => exact List.Pairwise.nil
  | succ i ih =>
    rw [pick_succ]
    cases h : p i with
    | false => exact ih
    | true =>
      refine List.pairwise_append.2 ⟨ih, List.pairwise_singleton _ _, fun a ha b hb => ?_⟩
      obtain ⟨j, hj, _, rfl⟩ := (pick_mem p i a).1 ha
      rw [List.mem_singleton.1 hb]
      omega
theorem at31 (h k : D) (n : Int) (i : Nat) (t11 t12 : V.U) (b : Bool) : V.evalU (tE h k n i t11 t12 18 (.dat (.bool b))) (.tmp 31) = some (.dat (.bool b)) := by kernel_rfl
theorem rounds {n : Int} (hn : -128 ≤ n ∧ n ≤ 127) (H K : Option (List Bool)) : ∀ (m i : Nat), i + m = 12 → ∀ (st : V.Store) (nx : Nat), Sh n st nx (pick (fun j => (bl K).getD j false) i) (pick (fun j => (bl H).getD j false) i) (pick (fun j => (bl K).getD j false && (bl H).getD j false) i) →
    ∃ st' nx', Sh n st' nx' (pick (fun j => (bl K).getD j false) 12) (pick (fun j => (bl H).getD j false) 12) (pick (fun j => (bl K).getD j false && (bl H).getD j false) 12) ∧ V.LRun Try.prog dLp ⟨tD (bD H) (bD K) n i .junk .junk, st, nx⟩ (.exit 0) ⟨tE (bD H) (bD K) n 12 .junk .junk 18 (.dat (.bool false)), st', nx'⟩ := by
  intro m
  induction m with
  | zero =>
    intro i hi st nx hs
    have hi : i = 12 := by omega
    subst hi
    refine ⟨st, nx, hs, V.LRun.out ?_ (by simp)⟩
    rw [shapeDl]
    exact V.Run.seq_out (V.Run.seq (dg8 hs.cl false (by kernel_rfl)) (V.Run.cond_false (at31 ..) (V.Run.exit (goodE V.sig0) regs follows))) (by simp)
  | succ m ih =>
    intro i hi st nx hs
    have l1 := pick_len (fun j => (bl K).getD j false) i
    have l2 := pick_len (fun j => (bl H).getD j false) i
    have l3 := pick_len (fun j => (bl K).getD j false && (bl H).getD j false) i
    obtain ⟨st1, nx1, hs1, hr⟩ := hs.round hn (z := (i : Int) - 3) rfl (by omega) (by omega) (by omega) (by omega) (kn_bD K i) (kn_bD H i)
    rw [← pick_succ (fun j => (bl K).getD j false) i, ← pick_succ (fun j => (bl H).getD j false) i, ← pick_succ (fun j => (bl K).getD j false && (bl H).getD j false) i] at hs1
    obtain ⟨st2, nx2, hs2, hl⟩ := ih (i + 1) (by omega) st1 nx1 hs1
    refine ⟨st2, nx2, hs2, V.LRun.step ?_ hl⟩
    have hb : V.Run Try.prog (.block 1 dB) ⟨tD (bD H) (bD K) n i .junk .junk, st, nx⟩ .normal ⟨tD (bD H) (bD K) n i (.dat (.bool ((bl K).getD i false))) .junk, st1, nx1⟩ := by simpa using hr.block (id := 1)
    rw [shapeDl]
    exact V.Run.seq (V.Run.seq (dg8 hs.cl true (by simp only [V.cmpI, Option.some.injEq, decide_eq_true_eq]; omega)) (V.Run.cond_true (at31 ..) (V.Run.skip (goodE V.sig0) regs follows))) (less_tE (V.Run.seq hb (dg9 hs1.cl (by omega) _ rfl)) (by decide))
end Go.Proofs.Ytjofhegodknmaaa.Say
