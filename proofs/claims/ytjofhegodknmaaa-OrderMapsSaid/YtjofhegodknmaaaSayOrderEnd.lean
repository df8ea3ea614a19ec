/- A map's pairs, however they are handed in, are one map: the law, whole. Mine. -/
import Derived.Test.YtjofhegodknmaaaSayOrderLoop
set_option linter.unusedVariables false
set_option linter.unusedSimpArgs false
namespace Go.Proofs.Ytjofhegodknmaaa.Say
open Go Go.RowKit
open V (D)

def aIo : V.An := { anE with io := fun f => [16,17,24,25,68,69,98,99,101,120,121,122,123,130,131,132,133,134,137,138,139,140,141].contains f }
theorem goodIo (s : V.Sig) : @V.Good s Try.prog aIo := @V.Good.mk s _ _ named (fun _ _ _ h => nomatch h) (fun _ _ _ _ h => nomatch h) (V.call_none rfl)
set_option maxRecDepth 1000000 in
theorem runBegun : V.tells Try.prog aIo 400 12 [] [.bool true] = true := by kernel_rfl
theorem begunHolds {s : V.Sig} : @V.Holds s Try.prog 12 [] [.bool true] := @V.holds_of_tells s _ _ (goodIo s) regs follows _ _ _ _ runBegun

/-! A map is its own twin. -/
def fT (q : Nat) : List V.Fact := (List.range q).flatMap fun i => [.cmp .neq (.sym (0 + i)) (.sym (0 + i)) false, .cmp .neq (.sym (0 + 20 + i)) (.sym (0 + 20 + i)) false]
def aT (q : Nat) : V.An := { anE with orc := V.orcOf (fT q) }
set_option maxRecDepth 1000000 in
theorem runTw : ∀ q ∈ qs10, V.tells Try.prog (aT q) 400 11 [mapD (.lst (nmV 0 q)), mapD (.lst (nmV 0 q))] [.bool true] = true := by
  intro q hq
  simp only [qs10, List.mem_cons, List.not_mem_nil, or_false] at hq
  rcases hq with rfl | rfl | rfl | rfl | rfl | rfl | rfl | rfl | rfl | rfl
  all_goals kernel_rfl
set_option maxRecDepth 1000000 in
theorem runTw0 : V.tells Try.prog anE 400 11 [mapD .nil, mapD .nil] [.bool true] = true := by kernel_rfl
theorem twinsHolds {ps : List (Int × Int)} (hl : ps.length ≤ 10) : @V.Holds V.sig0 Try.prog 11 [mapD (lstP ps), mapD (lstP ps)] [.bool true] := by
  by_cases h0 : ps.length = 0
  · have e : lstP ps = .nil := if_pos h0
    rw [e]
    exact @V.holds_of_tells V.sig0 _ _ (goodE _) regs follows _ _ _ _ runTw0
  · have e : lstP ps = .lst (kvs ps) := if_neg h0
    have e0 := inNmV0 ps ps (by omega)
    have hg : @V.Good (V.sigOf (sP ps ps)) Try.prog (aT ps.length) := by
      refine @V.Good.mk (V.sigOf (sP ps ps)) _ _ named (fun _ _ _ h => nomatch h) (@V.orc_of (V.sigOf (sP ps ps)) _ _ (fun f hf => ?_) _ rfl) (@V.call_none (V.sigOf (sP ps ps)) _ _ rfl)
      letI : V.Sig := V.sigOf (sP ps ps)
      obtain ⟨i, hi, hf⟩ := List.mem_flatMap.1 hf
      have hi' : i < ps.length := by simpa using hi
      obtain ⟨k0, k1, _, _⟩ := sP_key ps ps i (by omega)
      simp only [List.mem_cons, List.not_mem_nil, or_false] at hf
      rcases hf with rfl | rfl
      · exact V.okc (k := .i64) (m := (ps.getD i (0, 0)).1) (n := (ps.getD i (0, 0)).1) k0 k0 (V.c_neqF rfl)
      · exact V.okc (k := .i64) (m := (ps.getD i (0, 0)).2) (n := (ps.getD i (0, 0)).2) k1 k1 (V.c_neqF rfl)
    have r := V.Holds.ins (plainP ps ps) (@V.holds_of_tells (V.sigOf (sP ps ps)) _ _ hg regs follows _ _ _ _ (runTw ps.length (in10 (by omega) hl)))
    simp only [V.inDs, V.inD, mapD, mt, V.txt, e0] at r
    rw [e]
    exact r

/-! Turned. -/
def rot (k : Nat) (ps : List (Int × Int)) : List (Int × Int) := ps.drop k ++ ps.take k
theorem kvs_drop : ∀ (k : Nat) (ps : List (Int × Int)), kvs (ps.drop k) = (kvs ps).drop (2 * k)
  | 0, ps => rfl
  | k + 1, [] => by simp [kvs]
  | k + 1, p :: r => by
    have e : 2 * (k + 1) = 2 * k + 1 + 1 := by omega
    rw [List.drop_succ_cons, kvs_drop k r, e]
    rfl
theorem kvs_take : ∀ (k : Nat) (ps : List (Int × Int)), kvs (ps.take k) = (kvs ps).take (2 * k)
  | 0, ps => rfl
  | k + 1, [] => by simp [kvs]
  | k + 1, p :: r => by
    have e : 2 * (k + 1) = 2 * k + 1 + 1 := by omega
    have h := kvs_take k r
    rw [List.take_succ_cons, e]
    show vk 3 (dI p.1) :: vk 8 (dI p.2) :: kvs (r.take k) = _
    rw [h]
    rfl
theorem kvs_app (a b : List (Int × Int)) : kvs (a ++ b) = kvs a ++ kvs b := by simp [kvs]
theorem rot_perm (k : Nat) (ps : List (Int × Int)) : (rot k ps).Perm ps := by
  unfold rot
  refine List.perm_append_comm.trans ?_
  rw [List.take_append_drop]
theorem sort_rot {ps : List (Int × Int)} (hn : ps.Pairwise fun a b => a.1 ≠ b.1) (k : Nat) : sortP (rot k ps) = sortP ps := by
  obtain ⟨u1, p1⟩ := sortP_ok (rot k ps)
  obtain ⟨u2, p2⟩ := sortP_ok ps
  have hp : (sortP (rot k ps)).Perm ps := p1.trans (rot_perm k ps)
  exact Ord.up_one (fun p : Int × Int => p.1) (hp.trans p2.symm) u1 u2 (hp.symm.pairwise hn fun h => Ne.symm h)

/-! What is behind the loop. 80: the turn; 81: as an int. -/
def sR (tu : Int) (ps : List (Int × Int)) (j : Nat) : D := if j = 80 then .int .u8 tu else if j = 81 then .int .i64 tu else sP ps (sortP ps) j
theorem plainR (tu : Int) (ps : List (Int × Int)) : V.Plain (sR tu ps) := by
  constructor
  · intro j
    unfold sR
    split
    · rfl
    · split
      · rfl
      · exact (plainP ps (sortP ps)).1 j
  · intro j
    unfold sR
    split
    · rfl
    · split
      · rfl
      · exact (plainP ps (sortP ps)).2 j
theorem sR_lt (tu : Int) (ps : List (Int × Int)) {j : Nat} (h : j < 80) : sR tu ps j = sP ps (sortP ps) j := by unfold sR; rw [if_neg (by omega), if_neg (by omega)]
theorem kv_lt (tu : Int) (ps : List (Int × Int)) {i j : Nat} (hi : i < 80) (hj : j < 80) : (kv (.sym i) (.sym j)).map (V.inD (sR tu ps)) = (kv (.sym i) (.sym j)).map (V.inD (sP ps (sortP ps))) := by
  rw [inKv, inKv, sR_lt tu ps hi, sR_lt tu ps hj]
theorem inR (tu : Int) (ps : List (Int × Int)) (b q : Nat) (hb : b + 20 + q ≤ 80) : V.inDs (sR tu ps) (nmV b q) = V.inDs (sP ps (sortP ps)) (nmV b q) := by
  rw [V.inDs_eq, V.inDs_eq]
  unfold nmV
  rw [List.map_flatMap, List.map_flatMap]
  exact flatMap_same fun i hi => by
    have : i < q := by simpa using hi
    exact kv_lt tu ps (by omega) (by omega)
def nm5 (q : Nat) : List (List D) := (List.range q).flatMap fun i => [[.int .i64 3, .sym (0 + i), mt, .nil, .nil], [.int .i64 8, .sym (0 + 20 + i), mt, .nil, .nil]]
theorem in5 (tu : Int) (ps : List (Int × Int)) (hl : ps.length < 20) : (nm5 ps.length).map (V.inDs (sR tu ps)) = kvc ps := by
  unfold nm5 kvc
  conv => rhs; rw [← range_getD ps (0, 0)]
  rw [List.map_flatMap, List.flatMap_map]
  exact flatMap_same fun i hi => by
    have hi' : i < ps.length := by simpa using hi
    obtain ⟨k0, k1, _, _⟩ := sP_key ps (sortP ps) i (by omega)
    simp only [List.map_cons, List.map_nil, V.inDs, V.inD, mt, V.txt, sR_lt tu ps (show 0 + i < 80 by omega), sR_lt tu ps (show 0 + 20 + i < 80 by omega), k0, k1]
theorem inRow5 (σ : Nat → D) (g : Nat) (css : List (List D)) : V.inO σ (V.rowOf 28 5 true g css) = V.rowOf 28 5 true g (css.map (V.inDs σ)) := by
  have h : ∀ css : List (List D), V.inUs σ (css.flatten.map V.U.dat) = ((css.map (V.inDs σ)).flatten).map V.U.dat := by
    intro css
    induction css with
    | nil => simp [V.inUs]
    | cons c r ih =>
      rw [V.inUs_eq] at ih
      rw [List.flatten_cons, List.map_append, V.inUs_eq, List.map_append, ih, List.map_cons, List.flatten_cons, List.map_append]
      congr 1
      rw [V.inDs_eq, List.map_map, List.map_map]
      apply List.map_congr_left
      intro d _
      simp only [Function.comp_apply, V.inU]
  simp only [V.inO, V.rowOf, h]
def tE (tu : D) (a : V.U) : List V.U := [.junk, .dat tu, .junk, .junk, .junk, .junk, a, .dat .nil] ++ List.replicate 114 .junk
def kE : List Bool := [false, true, false, false, false, false, true, true]
def EN (bs : List Bool) (q : Nat) : V.St := ⟨tE (.sym 80) (.own 1080 (q - 1) 0 (2 * q)), [(48, seenO bs), (1080, V.rowOf 28 5 true (q - 1) (nm5 q))], 2000⟩
def rotN (k q : Nat) : List D := (nmV 0 q).drop (2 * k) ++ (nmV 0 q).take (2 * k)
def tR (k q : Nat) : V.Tbl := [(13, [([mapD (.lst (nmV 0 q))], [mapD (.lst (nmV 40 q)), .int .i64 0]), ([mapD (.lst (rotN k q))], [mapD (.lst (nmV 40 q)), .int .i64 0])]), (11, [([mapD (.lst (nmV 40 q)), mapD (.lst (nmV 40 q))], [.bool true])])]
def fR (k q : Nat) : List V.Fact := [.conv 5 3 (.sym 80) (.sym 81), .ari .rem (.sym 81) (.int .i64 q) (.int .i64 k)] ++ (List.range (q - 1)).map fun i => .cmp .geq (.sym (40 + i)) (.sym (41 + i)) false
def aR (k q : Nat) : V.An := { anE with spec := V.inTbl (tR k q), orc := V.orcOf (fR k q) }
def trueAt (o : Option (V.X × V.St)) : Bool :=
  match o with
  | some (V.X.ret, s) =>
    match s.tm[4]? with
    | some (V.U.dat (D.bool b)) => b
    | _ => false
  | _ => false
theorem trueAt_ok {o : Option (V.X × V.St)} (h : trueAt o = true) : ∃ s, o = some (.ret, s) ∧ s.tm[4]? = some (.dat (.bool true)) := by
  unfold trueAt at h
  split at h
  · rename_i s
    split at h
    · rename_i b hb
      refine ⟨s, rfl, ?_⟩
      rw [hb, h]
    · simp at h
  · simp at h
end Go.Proofs.Ytjofhegodknmaaa.Say
