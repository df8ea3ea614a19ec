/- Encode of a list of one value again and again. Mine. -/
import Derived.Test.YtjmfkfmcigdgbaaGreatSayValue
set_option linter.unusedVariables false
set_option linter.unusedSimpArgs false
namespace Go.Proofs.YtjmfkfmcigdgbaaGreat.Say
open Go Go.RowKit
open V (D)

theorem noLt (k : Int) : V.noSym (lt k) = true := by unfold lt; split <;> rfl
theorem startV (k n : Int) (m : Nat) : V.inS (sw k n m 0 (b0 k m)) (zV k) = ⟨[.ptr 144 0 0, .dat (lt k), .dat (wl k n m)] ++ List.replicate 141 .undef, stW (rl k n m) .nil, 192⟩ := by
  have e4 : V.inD (sw k n m 0 (b0 k m)) (.sym 4) = rl k n m := rfl
  simp only [zV, V.inS, V.inUs_eq, List.map_append, List.map_cons, List.map_nil, V.inU, V.inD, V.inDs, List.map_replicate, V.inSt, V.inO, stW, oS, oL, oW, obD, wn, wl, mt, V.txt, V.inD_no _ _ (noLt k)]
  rfl
/-- the bytes of a list -/
def lb (k n : Int) (m : Nat) : List D := grow (wd k) (IntKind.u64.wrap n) m (b0 k m)
theorem lb_length (k n : Int) (m : Nat) : (lb k n m).length = 5 + m * wd k := by
  rw [lb, grow_length, b0, List.length_append, putB_length]
  rfl
theorem valueHolds {k : Int} (hk : k ∈ kinds) (n : Int) (m : Nat) (hm : m < 1000) : @V.CallHolds V.sig0 Tryz.prog 16 [.ptr 144 0 0, .dat (lt k), .dat (wl k n m)] (stW (rl k n m) .nil) 192 (V.resL []) (stV (rl k n m) (.lst (lb k n m))) := by
  have h := valueRun hk n m hm
  rw [startV] at h
  exact @V.CallHolds.of_run V.sig0 _ _ _ _ Tryz.func16 bodyV _ _ _ _ _ h (.inl rfl) [] rfl

/-! Encode. -/
def lim : D := .agg [.int .i64 5, .int .i64 5000]
def se (k n : Int) (m : Nat) : Nat → D
  | 4 => rl k n m
  | 10 => lt k
  | 11 => .lst (lb k n m)
  | 12 => .int .i64 ((5 + m * wd k : Nat) : Int)
  | _ => .nil
theorem noGrow (z : Nat) (u : Int) : ∀ (q : Nat) (b : List D), V.noSyms b = true → V.noSyms (grow z u q b) = true
  | 0, _, h => h
  | q + 1, b, h => noGrow z u q _ (noSyms_app _ _ h (noPut z u))
theorem plainSe (k n : Int) (m : Nat) : V.Plain (se k n m) := by
  constructor
  · intro j
    unfold se
    split <;> first | rfl | exact oneRl _ _ _ | (unfold lt; split <;> rfl)
  · intro j
    unfold se
    split
    · exact noRl _ _ _
    · exact noLt _
    · exact noGrow _ _ _ _ (bts0 k m).no
    · rfl
    · rfl
def tN : V.Tbl := [(14, [([sch, .sym 10], [.bool true])]), (15, [([sch, .sym 10, wn], [.bool true])]), (52, [([wn], [.int .i64 1])])]
def cN : List V.CEnt := [⟨16, [.ptr 144 0 0, .dat (.sym 10), .dat wn], stW (.sym 4) .nil, 192, V.resL [], stV (.sym 4) (.sym 11), 1000⟩]
def gN : List V.Gact := [.len 30 (.sym 11) (.sym 12)]
def fN : List V.Fact := [.cmp .gtr (.sym 12) (.int .i64 5000) false]
def aN : V.An := { an3 with spec := V.inTbl tN, orc := V.orcOr (V.orcOf fN) (V.orcG gN), call := V.inCalls cN }
set_option maxRecDepth 1000000 in
theorem runN : V.tells Tryz.prog aN 400 6 [sch, .sym 10, wn, lim] [.sym 11, .int .i64 0] = true := by kernel_rfl
set_option maxRecDepth 1000000 in
theorem runKn : kinds.all (fun k => V.tells Tryz.prog an3 400 14 [sch, lt k] [.bool true]) = true := by kernel_rfl
theorem inWn (k n : Int) (m : Nat) : V.inD (se k n m) wn = wl k n m := rfl
theorem inSchT (k n : Int) (m : Nat) : V.inDs (se k n m) [sch, .sym 10] = [sch, lt k] := rfl
theorem inSchW (k n : Int) (m : Nat) : V.inDs (se k n m) [sch, .sym 10, wn] = [sch, lt k, wl k n m] := rfl
theorem tNOk {k n : Int} (hk : k ∈ kinds) (h : @V.Holds V.sig0 Tryz.prog 15 [sch, tx k, vv k n] [.bool true]) (m : Nat) (hm : m < 1000) : @V.TblOk (V.sigOf (se k n m)) Tryz.prog tN := by
  have h1 : @V.Holds (V.sigOf (se k n m)) Tryz.prog 14 [sch, .sym 10] [.bool true] := V.Holds.outs (plainSe k n m) (@V.holds_of_tells V.sig0 _ _ (goodAny _) regs follows _ _ _ _ (List.all_eq_true.1 runKn k hk))
  have h2 : @V.Holds (V.sigOf (se k n m)) Tryz.prog 15 [sch, .sym 10, wn] [.bool true] := V.Holds.outs (plainSe k n m) (checkList hk h m hm)
  have h3 : @V.Holds (V.sigOf (se k n m)) Tryz.prog 52 [wn] [.int .i64 1] := V.Holds.outs (plainSe k n m) (depthHolds hk n m hm)
  letI : V.Sig := V.sigOf (se k n m)
  exact V.TblOk.cons (V.RowOk.cons h1 V.RowOk.nil) (V.TblOk.cons (V.RowOk.cons h2 V.RowOk.nil) (V.TblOk.cons (V.RowOk.cons h3 V.RowOk.nil) V.TblOk.nil))
theorem cNOk {k : Int} (hk : k ∈ kinds) (n : Int) (m : Nat) (hm : m < 1000) : @V.CallsOk (V.sigOf (se k n m)) Tryz.prog cN := by
  intro e he
  simp only [cN, List.mem_cons, List.not_mem_nil, or_false] at he
  subst he
  exact V.CallHolds.outs (plainSe k n m) (valueHolds hk n m hm)
theorem encHolds {k n : Int} (hk : k ∈ kinds) (h : @V.Holds V.sig0 Tryz.prog 15 [sch, tx k, vv k n] [.bool true]) (m : Nat) (hm : m < 300) : @V.Holds V.sig0 Tryz.prog 6 [sch, lt k, wl k n m, lim] [.lst (lb k n m), .int .i64 0] := by
  have hw := wd_le k
  have hlt : m * wd k ≤ 300 * 8 := Nat.mul_le_mul (by omega) hw
  have hf : ∀ f ∈ fN, @V.Fact.ok (V.sigOf (se k n m)) Tryz.prog f := by
    letI : V.Sig := V.sigOf (se k n m)
    intro f hf
    simp only [fN, List.mem_cons, List.not_mem_nil, or_false] at hf
    subst hf
    exact V.okc (k := .i64) (m := ((5 + m * wd k : Nat) : Int)) (n := 5000) rfl rfl (V.c_gtrF (by omega))
  have hg : ∀ f ∈ gN, @V.Gact.ok (V.sigOf (se k n m)) Tryz.prog f := by
    letI : V.Sig := V.sigOf (se k n m)
    intro f hf
    simp only [gN, List.mem_cons, List.not_mem_nil, or_false] at hf
    subst hf
    exact ⟨5 + m * wd k, rfl, .inl ⟨⟨_, Tryz.underlying30⟩, .inr ⟨_, rfl, (lb_length k n m).symm⟩⟩⟩
  have hG : @V.Good (V.sigOf (se k n m)) Tryz.prog aN := @V.Good.mk (V.sigOf (se k n m)) _ _ named (@V.spec_of_tbl (V.sigOf (se k n m)) _ _ (tNOk hk h m (by omega))) (@V.orc_both (V.sigOf (se k n m)) _ _ _ hf hg _ rfl) (@V.call_of_list (V.sigOf (se k n m)) _ _ (cNOk hk n m (by omega)) _ rfl)
  exact V.Holds.ins (plainSe k n m) (@V.holds_of_tells (V.sigOf (se k n m)) _ _ hG regs follows _ _ _ _ runN)
end Go.Proofs.YtjmfkfmcigdgbaaGreat.Say
