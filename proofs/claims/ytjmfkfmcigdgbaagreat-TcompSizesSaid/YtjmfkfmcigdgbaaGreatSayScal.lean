/- Encode of a number by itself; what fits. Mine. -/
import Derived.Test.YtjmfkfmcigdgbaaGreatSayEnc
set_option linter.unusedVariables false
set_option linter.unusedSimpArgs false
namespace Go.Proofs.YtjmfkfmcigdgbaaGreat.Say
open Go Go.RowKit
open V (D)

/-- 2: a number; 40 on: its bits, eight less each; 50 on: the lowest eight of them -/
def shB (n : Int) : Nat → Int
  | 0 => IntKind.u64.wrap n
  | j + 1 => sh8 (shB n j)
def s8 (n : Int) : Nat → D
  | 2 => .int .i64 n
  | 40 => .int .u64 (shB n 0)
  | 41 => .int .u64 (shB n 1)
  | 42 => .int .u64 (shB n 2)
  | 43 => .int .u64 (shB n 3)
  | 44 => .int .u64 (shB n 4)
  | 45 => .int .u64 (shB n 5)
  | 46 => .int .u64 (shB n 6)
  | 47 => .int .u64 (shB n 7)
  | 48 => .int .u64 (shB n 8)
  | 50 => lo8 (shB n 0)
  | 51 => lo8 (shB n 1)
  | 52 => lo8 (shB n 2)
  | 53 => lo8 (shB n 3)
  | 54 => lo8 (shB n 4)
  | 55 => lo8 (shB n 5)
  | 56 => lo8 (shB n 6)
  | 57 => lo8 (shB n 7)
  | _ => .nil
theorem plainS8 (n : Int) : V.Plain (s8 n) := by
  constructor
  · intro j
    unfold s8
    split <;> rfl
  · intro j
    unfold s8
    split <;> rfl
def fS : List V.Fact := [.conv 2 94 (.sym 2) (.sym 40), .conv 94 5 (.sym 40) (.sym 50), .conv 94 5 (.sym 41) (.sym 51), .conv 94 5 (.sym 42) (.sym 52), .conv 94 5 (.sym 43) (.sym 53), .conv 94 5 (.sym 44) (.sym 54), .conv 94 5 (.sym 45) (.sym 55), .conv 94 5 (.sym 46) (.sym 56), .conv 94 5 (.sym 47) (.sym 57),
  .ari .shr (.sym 40) (.int .u64 8) (.sym 41), .ari .shr (.sym 41) (.int .u64 8) (.sym 42), .ari .shr (.sym 42) (.int .u64 8) (.sym 43), .ari .shr (.sym 43) (.int .u64 8) (.sym 44), .ari .shr (.sym 44) (.int .u64 8) (.sym 45), .ari .shr (.sym 45) (.int .u64 8) (.sym 46), .ari .shr (.sym 46) (.int .u64 8) (.sym 47), .ari .shr (.sym 47) (.int .u64 8) (.sym 48)]
theorem fSOk (n : Int) : ∀ f ∈ fS, @V.Fact.ok (V.sigOf (s8 n)) Tryz.prog f := by
  letI : V.Sig := V.sigOf (s8 n)
  intro f hf
  simp only [fS, List.mem_cons, List.not_mem_nil, or_false] at hf
  rcases hf with rfl | rfl | rfl | rfl | rfl | rfl | rfl | rfl | rfl | rfl | rfl | rfl | rfl | rfl | rfl | rfl | rfl
  · exact V.okv (k := .i64) (j := .u64) (n := n) Tryz.underlying2 rfl Tryz.underlying94 rfl
  · exact V.okv (k := .u64) (j := .u8) (n := shB n 0) Tryz.underlying94 rfl Tryz.underlying5 rfl
  · exact V.okv (k := .u64) (j := .u8) (n := shB n 1) Tryz.underlying94 rfl Tryz.underlying5 rfl
  · exact V.okv (k := .u64) (j := .u8) (n := shB n 2) Tryz.underlying94 rfl Tryz.underlying5 rfl
  · exact V.okv (k := .u64) (j := .u8) (n := shB n 3) Tryz.underlying94 rfl Tryz.underlying5 rfl
  · exact V.okv (k := .u64) (j := .u8) (n := shB n 4) Tryz.underlying94 rfl Tryz.underlying5 rfl
  · exact V.okv (k := .u64) (j := .u8) (n := shB n 5) Tryz.underlying94 rfl Tryz.underlying5 rfl
  · exact V.okv (k := .u64) (j := .u8) (n := shB n 6) Tryz.underlying94 rfl Tryz.underlying5 rfl
  · exact V.okv (k := .u64) (j := .u8) (n := shB n 7) Tryz.underlying94 rfl Tryz.underlying5 rfl
  all_goals exact V.okb (k := .u64) (j := .u64) rfl rfl (.inl rfl) rfl rfl
def bS : Int → List D
  | 2 => [.sym 50]
  | 3 => [.sym 50]
  | 6 => [.sym 51, .sym 50]
  | 8 => [.sym 53, .sym 52, .sym 51, .sym 50]
  | _ => [.sym 57, .sym 56, .sym 55, .sym 54, .sym 53, .sym 52, .sym 51, .sym 50]
theorem bS_length (k : Int) : (bS k).length = wd k := by unfold bS wd; split <;> first | rfl | (split <;> first | contradiction | rfl)
def tS (k : Int) : V.Tbl := (15, [([sch, tx k, nv k], [.bool true])]) :: t3
def tSn (k : Int) : V.Tbl := (15, [([sch, tx k, nv k], [.bool false])]) :: t3
def aS (k : Int) : V.An := { an3 with spec := V.inTbl (tS k), orc := V.orcOf fS }
def aSn (k : Int) : V.An := { an3 with spec := V.inTbl (tSn k) }
set_option maxRecDepth 1000000 in
theorem runS : ∀ k ∈ kinds, V.tells Tryz.prog (aS k) 400 6 [sch, tx k, nv k, lim] [.lst (bS k), .int .i64 0] = true := by
  intro k hk
  simp only [kinds, List.mem_cons, List.not_mem_nil, or_false] at hk
  rcases hk with rfl | rfl | rfl | rfl | rfl | rfl
  all_goals kernel_rfl
set_option maxRecDepth 1000000 in
theorem runSn : ∀ k ∈ kinds, V.tells Tryz.prog (aSn k) 400 6 [sch, tx k, nv k, lim] [.nil, .int .i64 1] = true := by
  intro k hk
  simp only [kinds, List.mem_cons, List.not_mem_nil, or_false] at hk
  rcases hk with rfl | rfl | rfl | rfl | rfl | rfl
  all_goals kernel_rfl
theorem inNv (k n : Int) : V.inDs (s8 n) [sch, tx k, nv k] = [sch, tx k, vv k n] := by
  simp only [V.inDs, V.inD_no _ _ (noTx k), sch, V.inD, nv, vv]
  rfl
theorem inNvl (k n : Int) : V.inDs (s8 n) [sch, tx k, nv k, lim] = [sch, tx k, vv k n, lim] := by
  simp only [V.inDs, V.inD_no _ _ (noTx k), sch, V.inD, nv, vv, lim]
  rfl
theorem tSOk {k n : Int} {r : Bool} (h : @V.Holds V.sig0 Tryz.prog 15 [sch, tx k, vv k n] [.bool r]) : @V.TblOk (V.sigOf (s8 n)) Tryz.prog ((15, [([sch, tx k, nv k], [.bool r])]) :: t3) := by
  have h1 : @V.Holds (V.sigOf (s8 n)) Tryz.prog 15 [sch, tx k, nv k] [.bool r] := V.Holds.outs (plainS8 n) (by rw [inNv]; exact h)
  exact @V.TblOk.cons (V.sigOf (s8 n)) _ _ _ _ (@V.RowOk.cons (V.sigOf (s8 n)) _ _ _ _ _ h1 (@V.RowOk.nil (V.sigOf (s8 n)) _ _)) (@V.TblOk.any (V.sigOf (s8 n)) _ _ tno to3)
/-- its bytes -/
def sb (k n : Int) : List D := V.inDs (s8 n) (bS k)
theorem sb_length (k n : Int) : (sb k n).length = wd k := by rw [sb, V.inDs_eq, List.length_map, bS_length]
theorem sb_no (k n : Int) : V.noSyms (sb k n) = true := by unfold sb bS; split <;> rfl
theorem scalHolds {k n : Int} (hk : k ∈ kinds) (h : @V.Holds V.sig0 Tryz.prog 15 [sch, tx k, vv k n] [.bool true]) : @V.Holds V.sig0 Tryz.prog 6 [sch, tx k, vv k n, lim] [.lst (sb k n), .int .i64 0] := by
  have hg : @V.Good (V.sigOf (s8 n)) Tryz.prog (aS k) := @V.Good.mk (V.sigOf (s8 n)) _ _ named (@V.spec_of_tbl (V.sigOf (s8 n)) _ _ (tSOk h)) (@V.orc_of (V.sigOf (s8 n)) _ _ (fSOk n) _ rfl) (@V.call_none (V.sigOf (s8 n)) _ _ rfl)
  have r := V.Holds.ins (plainS8 n) (@V.holds_of_tells (V.sigOf (s8 n)) _ _ hg regs follows _ _ _ _ (runS k hk))
  rw [inNvl] at r
  exact r
theorem scalNo {k n : Int} (hk : k ∈ kinds) (h : @V.Holds V.sig0 Tryz.prog 15 [sch, tx k, vv k n] [.bool false]) : @V.Holds V.sig0 Tryz.prog 6 [sch, tx k, vv k n, lim] [.nil, .int .i64 1] := by
  have hg : @V.Good (V.sigOf (s8 n)) Tryz.prog (aSn k) := @V.Good.mk (V.sigOf (s8 n)) _ _ named (@V.spec_of_tbl (V.sigOf (s8 n)) _ _ (tSOk h)) (fun _ _ _ _ h => nomatch h) (@V.call_none (V.sigOf (s8 n)) _ _ rfl)
  have r := V.Holds.ins (plainS8 n) (@V.holds_of_tells (V.sigOf (s8 n)) _ _ hg regs follows _ _ _ _ (runSn k hk))
  rw [inNvl] at r
  exact r

/-! What does not fit. -/
def fB : List V.Fact := [.cmp .eql (.sym 2) (.int .i64 0) false, .cmp .eql (.sym 2) (.int .i64 1) false]
def aB : V.An := { an3 with orc := V.orcOf fB }
set_option maxRecDepth 1000000 in
theorem runNb : V.tells Tryz.prog aB 400 15 [sch, tx 2, nv 2] [.bool false] = true := by kernel_rfl
set_option maxRecDepth 1000000 in
theorem runN8 : V.tells Tryz.prog (aC 135 false) 400 15 [sch, tx 3, nv 3] [.bool false] = true := by kernel_rfl
set_option maxRecDepth 1000000 in
theorem runN16 : V.tells Tryz.prog (aC 124 false) 400 15 [sch, tx 6, nv 6] [.bool false] = true := by kernel_rfl
set_option maxRecDepth 1000000 in
theorem runN32 : V.tells Tryz.prog (aC 21 false) 400 15 [sch, tx 8, nv 8] [.bool false] = true := by kernel_rfl
theorem wrapNo {j : IntKind} {n : Int} (h : n ≠ IntKind.i64.wrap (j.wrap n)) : decide (n = IntKind.i64.wrap (j.wrap n)) = false := by simp [h]
theorem i64_of {j : IntKind} {n : Int} (hi : IntKind.i64.wrap n = n) (h : ¬ j.wrap n = n) (hw : IntKind.i64.wrap (j.wrap n) = j.wrap n) : n ≠ IntKind.i64.wrap (j.wrap n) := by
  rw [hw]
  exact fun e => h e.symm
theorem w8 (n : Int) : IntKind.i64.wrap (IntKind.i8.wrap n) = IntKind.i8.wrap n := by rw [V.wr_i64, V.wr_i8]; omega
theorem w16 (n : Int) : IntKind.i64.wrap (IntKind.i16.wrap n) = IntKind.i16.wrap n := by rw [V.wr_i64, V.wr_i16]; omega
theorem w32 (n : Int) : IntKind.i64.wrap (IntKind.i32.wrap n) = IntKind.i32.wrap n := by rw [V.wr_i64, V.wr_i32]; omega
theorem checkNo {k : Int} (hk : k ∈ kinds) {n : Int} (hi : IntKind.i64.wrap n = n) (hf : fits k n = false) : @V.Holds V.sig0 Tryz.prog 15 [sch, tx k, vv k n] [.bool false] := by
  simp only [kinds, List.mem_cons, List.not_mem_nil, or_false] at hk
  rcases hk with rfl | rfl | rfl | rfl | rfl | rfl
  · have h : ¬(n = 0 ∨ n = 1) := by simpa [fits] using hf
    have hg : @V.Good (V.sigOf (sc .i64 n)) Tryz.prog aB := by
      letI : V.Sig := V.sigOf (sc .i64 n)
      refine @V.Good.mk (V.sigOf (sc .i64 n)) _ _ named (@V.spec_of_tbl (V.sigOf (sc .i64 n)) _ _ (V.TblOk.any tno to3)) (@V.orc_of (V.sigOf (sc .i64 n)) _ _ (fun f hf => ?_) _ rfl) (@V.call_none (V.sigOf (sc .i64 n)) _ _ rfl)
      simp only [fB, List.mem_cons, List.not_mem_nil, or_false] at hf
      rcases hf with rfl | rfl
      · exact V.okc (k := .i64) (m := n) (n := 0) rfl rfl (V.c_eqlF (by omega))
      · exact V.okc (k := .i64) (m := n) (n := 1) rfl rfl (V.c_eqlF (by omega))
    exact V.Holds.ins (plainSc .i64 n) (@V.holds_of_tells (V.sigOf (sc .i64 n)) _ _ hg regs follows _ _ _ _ runNb)
  · have h : ¬ IntKind.i8.wrap n = n := by simpa [fits, wideOf] using hf
    exact V.Holds.ins (plainSc .i8 n) (@V.holds_of_tells (V.sigOf (sc .i8 n)) _ _ (goodF Tryz.underlying135 (wrapNo (i64_of hi h (w8 n)))) regs follows _ _ _ _ runN8)
  · have h : ¬ IntKind.i16.wrap n = n := by simpa [fits, wideOf] using hf
    exact V.Holds.ins (plainSc .i16 n) (@V.holds_of_tells (V.sigOf (sc .i16 n)) _ _ (goodF Tryz.underlying124 (wrapNo (i64_of hi h (w16 n)))) regs follows _ _ _ _ runN16)
  · have h : ¬ IntKind.i32.wrap n = n := by simpa [fits, wideOf] using hf
    exact V.Holds.ins (plainSc .i32 n) (@V.holds_of_tells (V.sigOf (sc .i32 n)) _ _ (goodF Tryz.underlying21 (wrapNo (i64_of hi h (w32 n)))) regs follows _ _ _ _ runN32)
  · exact absurd hi (by simpa [fits, wideOf] using hf)
  · exact absurd hi (by simpa [fits, wideOf] using hf)

/-! The law's own question whether a number fits. -/
def lo (k : Int) : Int := if k = 2 then 0 else if k = 3 then -128 else if k = 6 then -32768 else -2147483648
def hi (k : Int) : Int := if k = 2 then 1 else if k = 3 then 127 else if k = 6 then 32767 else 2147483647
def fG (k : Int) (a b : Bool) : List V.Fact := if k = 2 then [.cmp .eql (.sym 2) (.int .i64 0) a, .cmp .eql (.sym 2) (.int .i64 1) b] else [.cmp .geq (.sym 2) (.int .i64 (lo k)) a, .cmp .leq (.sym 2) (.int .i64 (hi k)) b]
def rG (k : Int) (a b : Bool) : Bool := if k = 2 then a || b else if k = 10 || k = 4 then true else a && b
def aG (k : Int) (a b : Bool) : V.An := { an3 with orc := V.orcOf (fG k a b) }
def bools : List (Bool × Bool) := [(true, true), (true, false), (false, true), (false, false)]
set_option maxRecDepth 1000000 in
theorem runG : kinds.all (fun k => bools.all fun p => V.tells Tryz.prog (aG k p.1 p.2) 400 7 [.int .i64 k, .sym 2] [.bool (rG k p.1 p.2)]) = true := by kernel_rfl
theorem fitsHolds {k : Int} (hk : k ∈ kinds) {n : Int} (hi64 : IntKind.i64.wrap n = n) : @V.Holds V.sig0 Tryz.prog 7 [.int .i64 k, .int .i64 n] [.bool (fits k n)] := by
  have key : ∀ a b : Bool, (∀ f ∈ fG k a b, @V.Fact.ok (V.sigOf (sc .i64 n)) Tryz.prog f) → rG k a b = fits k n → @V.Holds V.sig0 Tryz.prog 7 [.int .i64 k, .int .i64 n] [.bool (fits k n)] := by
    intro a b hf hr
    have hg : @V.Good (V.sigOf (sc .i64 n)) Tryz.prog (aG k a b) := @V.Good.mk (V.sigOf (sc .i64 n)) _ _ named (@V.spec_of_tbl (V.sigOf (sc .i64 n)) _ _ (V.TblOk.any tno to3)) (@V.orc_of (V.sigOf (sc .i64 n)) _ _ hf _ rfl) (@V.call_none (V.sigOf (sc .i64 n)) _ _ rfl)
    have h1 := List.all_eq_true.1 (List.all_eq_true.1 runG k hk) (a, b) (by cases a <;> cases b <;> simp [bools])
    have r := V.Holds.ins (plainSc .i64 n) (@V.holds_of_tells (V.sigOf (sc .i64 n)) _ _ hg regs follows _ _ _ _ h1)
    rw [hr] at r
    exact r
  by_cases h2 : k = 2
  · subst h2
    refine key (decide (n = 0)) (decide (n = 1)) (fun f hf => ?_) ?_
    · letI : V.Sig := V.sigOf (sc .i64 n)
      simp only [fG, if_true, List.mem_cons, List.not_mem_nil, or_false] at hf
      rcases hf with rfl | rfl
      · exact V.okc (k := .i64) (m := n) (n := 0) rfl rfl (by simp [V.cmpI]; rfl)
      · exact V.okc (k := .i64) (m := n) (n := 1) rfl rfl (by simp [V.cmpI]; rfl)
    · simp [rG, fits]
  · refine key (decide (n ≥ lo k)) (decide (n ≤ hi k)) (fun f hf => ?_) ?_
    · letI : V.Sig := V.sigOf (sc .i64 n)
      simp only [fG, if_neg h2, List.mem_cons, List.not_mem_nil, or_false] at hf
      rcases hf with rfl | rfl
      · exact V.okc (k := .i64) (m := n) (n := lo k) rfl rfl (by simp [V.cmpI])
      · exact V.okc (k := .i64) (m := n) (n := hi k) rfl rfl (by simp [V.cmpI])
    · simp only [kinds, List.mem_cons, List.not_mem_nil, or_false] at hk
      rcases hk with rfl | rfl | rfl | rfl | rfl | rfl
      · exact absurd rfl h2
      · (rw [Bool.eq_iff_iff]; simp [rG, fits, wideOf, lo, hi, V.wr_i8]; omega)
      · (rw [Bool.eq_iff_iff]; simp [rG, fits, wideOf, lo, hi, V.wr_i16]; omega)
      · (rw [Bool.eq_iff_iff]; simp [rG, fits, wideOf, lo, hi, V.wr_i32]; omega)
      · simp [rG, fits, wideOf, hi64]
      · simp [rG, fits, wideOf, hi64]
end Go.Proofs.YtjmfkfmcigdgbaaGreat.Say
