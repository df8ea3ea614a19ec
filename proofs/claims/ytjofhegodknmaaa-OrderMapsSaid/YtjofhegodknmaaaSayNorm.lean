/- A map's pairs, up to ten, brought into order. Mine. -/
import Derived.Test.YtjofhegodknmaaaSaySortP
set_option linter.unusedVariables false
set_option linter.unusedSimpArgs false
namespace Go.Proofs.Ytjofhegodknmaaa.Say
open Go Go.RowKit
open V (D)

def cmp3 (m n : Int) : Int := if m < n then -1 else if n < m then 1 else 0
theorem cmp3_lt (m n : Int) : cmp3 m n < 0 ↔ m < n := by unfold cmp3; split <;> (try split) <;> omega
def vk (k : Int) (n : D) : D := .agg [.int .i64 k, n, mt, .nil, .nil]
/-- two numbers and what is said of them -/
def s2 (m n : Int) : Nat → D
  | 0 => .int .i64 m
  | 1 => .int .i64 n
  | 5 => .int .i64 (cmp3 m n)
  | _ => .nil
theorem plain2 (m n : Int) : V.Plain (s2 m n) := by
  constructor
  · intro j
    unfold s2
    split <;> rfl
  · intro j
    unfold s2
    split <;> rfl
def fC2 (a b : Bool) : List V.Fact := [.cmp .neq (.sym 0) (.sym 0) false, .cmp .neq (.sym 1) (.sym 1) false, .cmp .lss (.sym 0) (.sym 1) a, .cmp .gtr (.sym 0) (.sym 1) b]
def aC2 (a b : Bool) : V.An := { anE with orc := V.orcOf (fC2 a b) }
set_option maxRecDepth 1000000 in
theorem runC2 : V.tells Try.prog (aC2 true false) 400 29 [vk 3 (.sym 0), vk 3 (.sym 1)] [.int .i64 (-1)] = true ∧ V.tells Try.prog (aC2 false false) 400 29 [vk 3 (.sym 0), vk 3 (.sym 1)] [.int .i64 0] = true ∧ V.tells Try.prog (aC2 false true) 400 29 [vk 3 (.sym 0), vk 3 (.sym 1)] [.int .i64 1] = true :=
  ⟨by kernel_rfl, by kernel_rfl, by kernel_rfl⟩
theorem cmpHolds (m n : Int) : @V.Holds V.sig0 Try.prog 29 [vk 3 (.int .i64 m), vk 3 (.int .i64 n)] [.int .i64 (cmp3 m n)] := by
  have key : ∀ a b : Bool, V.cmpI .lss m n = some a → V.cmpI .gtr m n = some b → @V.Good (V.sigOf (s2 m n)) Try.prog (aC2 a b) := by
    intro a b ha hb
    refine @V.Good.mk (V.sigOf (s2 m n)) _ _ named (fun _ _ _ h => nomatch h) (@V.orc_of (V.sigOf (s2 m n)) _ _ (fun f hf => ?_) _ rfl) (@V.call_none (V.sigOf (s2 m n)) _ _ rfl)
    letI : V.Sig := V.sigOf (s2 m n)
    simp only [fC2, List.mem_cons, List.not_mem_nil, or_false] at hf
    rcases hf with rfl | rfl | rfl | rfl
    · exact V.okc (k := .i64) (m := m) (n := m) rfl rfl (V.c_neqF rfl)
    · exact V.okc (k := .i64) (m := n) (n := n) rfl rfl (V.c_neqF rfl)
    · exact V.okc (k := .i64) (m := m) (n := n) rfl rfl ha
    · exact V.okc (k := .i64) (m := m) (n := n) rfl rfl hb
  obtain ⟨r1, r2, r3⟩ := runC2
  by_cases h1 : m < n
  · have e : cmp3 m n = -1 := by rw [cmp3, if_pos h1]
    rw [e]
    exact V.Holds.ins (plain2 m n) (@V.holds_of_tells (V.sigOf (s2 m n)) _ _ (key true false (V.c_lssT h1) (V.c_gtrF (by omega))) regs follows _ _ _ _ r1)
  · by_cases h2 : n < m
    · have e : cmp3 m n = 1 := by rw [cmp3, if_neg h1, if_pos h2]
      rw [e]
      exact V.Holds.ins (plain2 m n) (@V.holds_of_tells (V.sigOf (s2 m n)) _ _ (key false true (V.c_lssF (by omega)) (V.c_gtrT h2)) regs follows _ _ _ _ r3)
    · have e : cmp3 m n = 0 := by rw [cmp3, if_neg h1, if_neg h2]
      rw [e]
      exact V.Holds.ins (plain2 m n) (@V.holds_of_tells (V.sigOf (s2 m n)) _ _ (key false false (V.c_lssF (by omega)) (V.c_gtrF (by omega))) regs follows _ _ _ _ r2)

/-! What is said of pairs. -/
def elc (k v : D) : List D := [.int .i64 3, k, mt, .nil, .nil, .int .i64 8, v, mt, .nil, .nil]
def elp (p : Int × Int) : List D := elc (.int .i64 p.1) (.int .i64 p.2)
/-- two pairs and what is said of them -/
def s4 (p q : Int × Int) : Nat → D
  | 0 => .int .i64 p.1
  | 1 => .int .i64 q.1
  | 2 => .int .i64 p.2
  | 3 => .int .i64 q.2
  | 5 => .int .i64 (cmp3 p.1 q.1)
  | _ => .nil
theorem plain4 (p q : Int × Int) : V.Plain (s4 p q) := by
  constructor
  · intro j
    unfold s4
    split <;> rfl
  · intro j
    unfold s4
    split <;> rfl
def t4 : V.Tbl := [(29, [([vk 3 (.sym 0), vk 3 (.sym 1)], [.sym 5])])]
def a4 : V.An := { anE with spec := V.inTbl t4 }
set_option maxRecDepth 1000000 in
theorem run4 : V.tells Try.prog a4 400 100 [.agg (elc (.sym 0) (.sym 2)), .agg (elc (.sym 1) (.sym 3))] [.sym 5] = true := by kernel_rfl
theorem cloHolds (p q : Int × Int) : @V.Holds V.sig0 Try.prog 100 [.agg (elp p), .agg (elp q)] [.int .i64 (cmp3 p.1 q.1)] := by
  have h1 : @V.Holds (V.sigOf (s4 p q)) Try.prog 29 [vk 3 (.sym 0), vk 3 (.sym 1)] [.sym 5] := V.Holds.outs (plain4 p q) (cmpHolds p.1 q.1)
  have ht : @V.TblOk (V.sigOf (s4 p q)) Try.prog t4 := @V.TblOk.cons (V.sigOf (s4 p q)) _ _ _ _ (@V.RowOk.cons (V.sigOf (s4 p q)) _ _ _ _ _ h1 (@V.RowOk.nil (V.sigOf (s4 p q)) _ _)) (@V.TblOk.nil (V.sigOf (s4 p q)) _)
  have hg : @V.Good (V.sigOf (s4 p q)) Try.prog a4 := @V.Good.mk (V.sigOf (s4 p q)) _ _ named (@V.spec_of_tbl (V.sigOf (s4 p q)) _ _ ht) (fun _ _ _ _ h => nomatch h) (@V.call_none (V.sigOf (s4 p q)) _ _ rfl)
  exact V.Holds.ins (plain4 p q) (@V.holds_of_tells (V.sigOf (s4 p q)) _ _ hg regs follows _ _ _ _ run4)
def pairOf : D → Option (Int × Int)
  | .agg [_, .int .i64 k, _, _, _, _, .int .i64 v, _, _, _] => some (k, v)
  | _ => none
/-- what is known of the function that compares pairs -/
def spP (f : Nat) (ds : List D) : Option (List D) :=
  match ds with
  | [x, y] =>
    match pairOf x, pairOf y with
    | some p, some q => if Nat.beq f 100 && V.beqD x (.agg (elp p)) && V.beqD y (.agg (elp q)) then some [.int .i64 (cmp3 p.1 q.1)] else none
    | _, _ => none
  | _ => none
theorem spP_good : V.Good Try.prog (SayP.anC spP) := by
  refine @V.Good.mk V.sig0 _ _ named (fun f ds rs h => ?_) (fun _ _ _ _ h => nomatch h) (V.call_none rfl)
  have h' : spP f ds = some rs := h
  unfold spP at h'
  split at h'
  · split at h'
    · rename_i x y p q hp hq
      split at h'
      · rename_i hc
        simp only [Bool.and_eq_true] at hc
        obtain rfl := Nat.eq_of_beq_eq_true hc.1.1
        obtain rfl := V.beqD_eq _ _ hc.1.2
        obtain rfl := V.beqD_eq _ _ hc.2
        obtain rfl := Option.some.inj h'
        exact cloHolds p q
      · simp at h'
    · simp at h'
  · simp at h'
/-- a pair's key -/
def keyL : List D → Int
  | _ :: .int _ k :: _ => k
  | _ => 0
def ccL (x y : List D) : Int := cmp3 (keyL x) (keyL y)
def ccP (p q : Int × Int) : Int := cmp3 p.1 q.1
theorem spP_eq (p q : Int × Int) : spP 100 [.agg (elp p), .agg (elp q)] = some [.int .i64 (cmp3 p.1 q.1)] := by
  simp only [spP, elp, elc, pairOf, V.beqD_refl, Bool.and_true, Nat.beq_refl]
  rfl
theorem says (ps : List (Int × Int)) : SayP.Says spP 100 ccL (ps.map elp) := by
  refine ⟨fun x hx y hy => ?_⟩
  obtain ⟨p, _, rfl⟩ := List.mem_map.1 hx
  obtain ⟨q, _, rfl⟩ := List.mem_map.1 hy
  exact spP_eq p q
theorem sink_map : ∀ (q : Nat) (ps : List (Int × Int)), Ord.sink ccL q (ps.map elp) = (Ord.sink ccP q ps).map elp := by
  intro q
  induction q with
  | zero => intro ps; rfl
  | succ q ih =>
    intro ps
    unfold Ord.sink
    simp only [List.getElem?_map]
    cases h0 : ps[q]? with
    | none => rfl
    | some a =>
      cases h1 : ps[q + 1]? with
      | none => rfl
      | some b =>
        have e : ccL (elp b) (elp a) = ccP b a := rfl
        simp only [Option.map_some, e]
        split
        · have es : Ord.swp q (elp a) (elp b) (ps.map elp) = (Ord.swp q a b ps).map elp := by simp [Ord.swp, List.map_set]
          rw [es, ih]
        · rfl
theorem isort_map : ∀ (m i : Nat) (ps : List (Int × Int)), Ord.isort ccL m i (ps.map elp) = (Ord.isort ccP m i ps).map elp := by
  intro m
  induction m with
  | zero => intro i ps; rfl
  | succ m ih => intro i ps; rw [Ord.isort, sink_map, ih, Ord.isort]
/-- pairs in order -/
def sortP (ps : List (Int × Int)) : List (Int × Int) := Ord.isort ccP (ps.length - 1) 1 ps
theorem sortP_len (ps : List (Int × Int)) : (sortP ps).length = ps.length := Ord.isort_len _ _ _ _
theorem sorted_map (ps : List (Int × Int)) : SayP.sorted ccL (ps.map elp) = (sortP ps).map elp := by
  unfold SayP.sorted sortP
  rw [List.length_map, isort_map]
theorem sortP_ok (ps : List (Int × Int)) : Ord.Up (fun p : Int × Int => p.1) (sortP ps) ∧ (sortP ps).Perm ps := Ord.isort_all ccP (fun p => p.1) ps (fun x _ y _ => cmp3_lt x.1 y.1)
theorem elsP (ps : List (Int × Int)) : SayP.Els (ps.map elp) :=
  ⟨fun c hc => by obtain ⟨p, _, rfl⟩ := List.mem_map.1 hc; rfl, fun c hc d hd => by
    obtain ⟨p, _, rfl⟩ := List.mem_map.1 hc
    simp only [elp, elc, List.mem_cons, List.not_mem_nil, or_false] at hd
    rcases hd with rfl | rfl | rfl | rfl | rfl | rfl | rfl | rfl | rfl | rfl <;> rfl, .inl rfl⟩
theorem sortPHolds (ps : List (Int × Int)) (g nx : Nat) (hx : 192 < nx) (hl : ps.length < 20) :
    @V.CallHolds V.sig0 Try.prog 99 [.own 192 g 0 ps.length, .dat (.fn 100 [])] [(192, V.rowOf 152 10 true g (ps.map elp))] nx (V.resL []) [(192, V.rowOf 152 10 true g ((sortP ps).map elp))] := by
  have h := SayP.sortHolds (g := g) (nx := nx) (f := 100) (css := ps.map elp) (by kernel_rfl) spP_good hx (elsP ps) (by rw [List.length_map]; exact hl) (says ps)
  rw [sorted_map, List.length_map] at h
  exact h

/-! With names. i: keys, 20 + i: values, 40 + i: keys in order, 60 + i: their values. -/
def dI (n : Int) : D := .int .i64 n
def sP (ps qs : List (Int × Int)) (j : Nat) : D :=
  if j < 20 then dI (ps.getD j (0, 0)).1 else if j < 40 then dI (ps.getD (j - 20) (0, 0)).2 else if j < 60 then dI (qs.getD (j - 40) (0, 0)).1 else dI (qs.getD (j - 60) (0, 0)).2
theorem plainP (ps qs : List (Int × Int)) : V.Plain (sP ps qs) := by
  constructor
  · intro j
    unfold sP
    split <;> (try split) <;> (try split) <;> rfl
  · intro j
    unfold sP
    split <;> (try split) <;> (try split) <;> rfl
/-- pairs as a list of values -/
def kv (k v : D) : List D := [vk 3 k, vk 8 v]
def kvs (ps : List (Int × Int)) : List D := ps.flatMap fun p => kv (dI p.1) (dI p.2)
def nmE (b q : Nat) : List (List D) := (List.range q).map fun i => elc (.sym (b + i)) (.sym (b + 20 + i))
def nmV (b q : Nat) : List D := (List.range q).flatMap fun i => kv (.sym (b + i)) (.sym (b + 20 + i))
theorem range_getD {α : Type} (l : List α) (d : α) : (List.range l.length).map (fun i => l.getD i d) = l := by
  apply List.ext_getElem
  · simp
  · intro i h1 h2
    simp at h1
    simp [h1]
theorem sP_key (ps qs : List (Int × Int)) (i : Nat) (h : i < 20) : sP ps qs (0 + i) = dI (ps.getD i (0, 0)).1 ∧ sP ps qs (0 + 20 + i) = dI (ps.getD i (0, 0)).2 ∧ sP ps qs (40 + i) = dI (qs.getD i (0, 0)).1 ∧ sP ps qs (40 + 20 + i) = dI (qs.getD i (0, 0)).2 := by
  refine ⟨?_, ?_, ?_, ?_⟩
  · unfold sP; rw [if_pos (by omega), Nat.zero_add]
  · unfold sP; rw [if_neg (by omega), if_pos (by omega), show 0 + 20 + i - 20 = i by omega]
  · unfold sP; rw [if_neg (by omega), if_neg (by omega), if_pos (by omega), show 40 + i - 40 = i by omega]
  · unfold sP; rw [if_neg (by omega), if_neg (by omega), if_neg (by omega), show 40 + 20 + i - 60 = i by omega]
theorem inElc (σ : Nat → D) (i j : Nat) : V.inDs σ (elc (.sym i) (.sym j)) = elc (σ i) (σ j) := by simp only [elc, mt, V.txt, V.inDs, V.inD]
theorem inKv (σ : Nat → D) (i j : Nat) : (kv (.sym i) (.sym j)).map (V.inD σ) = kv (σ i) (σ j) := by simp only [kv, vk, mt, V.txt, List.map_cons, List.map_nil, V.inDs, V.inD]
theorem inNmE0 (ps qs : List (Int × Int)) (hl : ps.length < 20) : (nmE 0 ps.length).map (V.inDs (sP ps qs)) = ps.map elp := by
  unfold nmE
  rw [List.map_map]
  conv => rhs; rw [← range_getD ps (0, 0)]
  rw [List.map_map]
  apply List.map_congr_left
  intro i hi
  have hi' : i < ps.length := by simpa using hi
  obtain ⟨h1, h2, _, _⟩ := sP_key ps qs i (by omega)
  simp only [Function.comp_apply, inElc, h1, h2, elp, dI]
theorem inNmE4 (ps qs : List (Int × Int)) (hl : qs.length < 20) : (nmE 40 qs.length).map (V.inDs (sP ps qs)) = qs.map elp := by
  unfold nmE
  rw [List.map_map]
  conv => rhs; rw [← range_getD qs (0, 0)]
  rw [List.map_map]
  apply List.map_congr_left
  intro i hi
  have hi' : i < qs.length := by simpa using hi
  obtain ⟨_, _, h1, h2⟩ := sP_key ps qs i (by omega)
  simp only [Function.comp_apply, inElc, h1, h2, elp, dI]
theorem flatMap_same {α β : Type} {f g : α → List β} : ∀ {l : List α}, (∀ x ∈ l, f x = g x) → l.flatMap f = l.flatMap g
  | [], _ => rfl
  | a :: r, h => by
    rw [List.flatMap_cons, List.flatMap_cons, h a (by simp), flatMap_same fun x hx => h x (by simp [hx])]
theorem flatMap_range (ps : List (Int × Int)) (f : Nat → List D) (h : ∀ i, i < ps.length → f i = kv (dI (ps.getD i (0, 0)).1) (dI (ps.getD i (0, 0)).2)) : (List.range ps.length).flatMap f = kvs ps := by
  unfold kvs
  conv => rhs; rw [← range_getD ps (0, 0)]
  rw [List.flatMap_map]
  exact flatMap_same fun i hi => h i (by simpa using hi)
theorem inNmV0 (ps qs : List (Int × Int)) (hl : ps.length < 20) : V.inDs (sP ps qs) (nmV 0 ps.length) = kvs ps := by
  rw [V.inDs_eq]
  unfold nmV
  rw [List.map_flatMap]
  refine flatMap_range ps _ fun i hi => ?_
  obtain ⟨h1, h2, _, _⟩ := sP_key ps qs i (by omega)
  rw [inKv, h1, h2]
theorem inNmV4 (ps qs : List (Int × Int)) (hl : qs.length < 20) : V.inDs (sP ps qs) (nmV 40 qs.length) = kvs qs := by
  rw [V.inDs_eq]
  unfold nmV
  rw [List.map_flatMap]
  refine flatMap_range qs _ fun i hi => ?_
  obtain ⟨_, _, h1, h2⟩ := sP_key ps qs i (by omega)
  rw [inKv, h1, h2]
theorem inRow (σ : Nat → D) (g : Nat) (css : List (List D)) : V.inO σ (V.rowOf 152 10 true g css) = V.rowOf 152 10 true g (css.map (V.inDs σ)) := by
  have h : ∀ css : List (List D), V.inUs σ (css.flatten.map V.U.dat) = ((css.map (V.inDs σ)).flatten).map V.U.dat := by
    intro css
    induction css with
    | nil => simp [V.inUs]
    | cons c r ih =>
      rw [V.inUs_eq] at ih
      rw [List.flatten_cons, List.map_append, V.inUs_eq, List.map_append, ih, List.map_cons, List.flatten_cons, List.map_append]
      congr 1
      rw [V.inDs_eq, List.map_map, List.map_map]
      apply List.map_congr_left
      intro d _
      simp only [Function.comp_apply, V.inU]
  simp only [V.inO, V.rowOf, h]

/-! mapped, Normal. -/
def qs10 : List Nat := [1, 2, 3, 4, 5, 6, 7, 8, 9, 10]
def entP (q : Nat) : V.CEnt := ⟨99, [.own 192 (q - 1) 0 q, .dat (.fn 100 [])], [(192, V.rowOf 152 10 true (q - 1) (nmE 0 q))], 112 + 168 * q, V.resL [], [(192, V.rowOf 152 10 true (q - 1) (nmE 40 q))], 112 + 168 * q⟩
def tQ (q : Nat) : V.Tbl := [(29, (List.range (q - 1)).map fun i => ([vk 3 (.sym (40 + i)), vk 3 (.sym (41 + i))], [.int .i64 (-1)]))]
def aQ (q : Nat) : V.An := { anE with io := fun f => Nat.beq f 99, spec := V.inTbl (tQ q), call := V.inCalls [entP q] }
set_option maxRecDepth 1000000 in
theorem runQ : ∀ q ∈ qs10, V.tells Try.prog (aQ q) 400 71 [.lst (nmV 0 q)] [.lst (nmV 40 q), .int .i64 0] = true := by
  intro q hq
  simp only [qs10, List.mem_cons, List.not_mem_nil, or_false] at hq
  rcases hq with rfl | rfl | rfl | rfl | rfl | rfl | rfl | rfl | rfl | rfl
  all_goals kernel_rfl
theorem rise {ps : List (Int × Int)} (hn : ps.Pairwise fun a b => a.1 ≠ b.1) {i : Nat} (hi : i + 1 < ps.length) : ((sortP ps).getD i (0, 0)).1 < ((sortP ps).getD (i + 1) (0, 0)).1 := by
  obtain ⟨hu, hp⟩ := sortP_ok ps
  have hl := sortP_len ps
  have h0 : i < (sortP ps).length := by omega
  have h1 : i + 1 < (sortP ps).length := by omega
  have hn' : (sortP ps).Pairwise fun a b => a.1 ≠ b.1 := hp.symm.pairwise hn fun h => Ne.symm h
  have e0 : (sortP ps).getD i (0, 0) = (sortP ps)[i] := by simp [h0]
  have e1 : (sortP ps).getD (i + 1) (0, 0) = (sortP ps)[i + 1] := by simp [h1]
  have a := List.pairwise_iff_getElem.1 hu i (i + 1) h0 h1 (by omega)
  have b := List.pairwise_iff_getElem.1 hn' i (i + 1) h0 h1 (by omega)
  rw [e0, e1]
  simp only at a b
  omega
theorem entOk {ps : List (Int × Int)} (h1 : 1 ≤ ps.length) (hl : ps.length ≤ 10) : @V.CallsOk (V.sigOf (sP ps (sortP ps))) Try.prog [entP ps.length] := by
  intro e he
  simp only [List.mem_cons, List.not_mem_nil, or_false] at he
  subst he
  have h := sortPHolds ps (ps.length - 1) (112 + 168 * ps.length) (by omega) (by omega)
  have hs := sortP_len ps
  refine V.CallHolds.outs (plainP ps (sortP ps)) ?_
  have e1 : V.inSt (sP ps (sortP ps)) [(192, V.rowOf 152 10 true (ps.length - 1) (nmE 0 ps.length))] = [(192, V.rowOf 152 10 true (ps.length - 1) (ps.map elp))] := by
    simp only [V.inSt, List.map_cons, List.map_nil, inRow, inNmE0 ps (sortP ps) (by omega)]
  have e2 : V.inSt (sP ps (sortP ps)) [(192, V.rowOf 152 10 true (ps.length - 1) (nmE 40 ps.length))] = [(192, V.rowOf 152 10 true (ps.length - 1) ((sortP ps).map elp))] := by
    have := inNmE4 ps (sortP ps) (by omega)
    rw [hs] at this
    simp only [V.inSt, List.map_cons, List.map_nil, inRow, this]
  simp only [entP]
  rw [e1, e2]
  exact h
theorem tQOk {ps : List (Int × Int)} (hl : ps.length ≤ 10) (hn : ps.Pairwise fun a b => a.1 ≠ b.1) : @V.TblOk (V.sigOf (sP ps (sortP ps))) Try.prog (tQ ps.length) := by
  intro e he r hr
  simp only [tQ, List.mem_cons, List.not_mem_nil, or_false] at he
  subst he
  simp only [List.mem_map, List.mem_range] at hr
  obtain ⟨i, hi, rfl⟩ := hr
  have hlt := rise hn (i := i) (by omega)
  obtain ⟨_, _, k0, _⟩ := sP_key ps (sortP ps) i (by omega)
  obtain ⟨_, _, k1, _⟩ := sP_key ps (sortP ps) (i + 1) (by omega)
  have e1 : V.inDs (sP ps (sortP ps)) [vk 3 (.sym (40 + i)), vk 3 (.sym (41 + i))] = [vk 3 (dI ((sortP ps).getD i (0, 0)).1), vk 3 (dI ((sortP ps).getD (i + 1) (0, 0)).1)] := by
    rw [← k0, ← k1, show 41 + i = 40 + (i + 1) by omega]
    simp only [vk, mt, V.txt, V.inDs, V.inD]
  have h := cmpHolds ((sortP ps).getD i (0, 0)).1 ((sortP ps).getD (i + 1) (0, 0)).1
  rw [cmp3, if_pos hlt] at h
  exact V.Holds.outs (plainP ps (sortP ps)) (by rw [e1]; exact h)
theorem goodQ {ps : List (Int × Int)} (h1 : 1 ≤ ps.length) (hl : ps.length ≤ 10) (hn : ps.Pairwise fun a b => a.1 ≠ b.1) : @V.Good (V.sigOf (sP ps (sortP ps))) Try.prog (aQ ps.length) := by
  have ht := tQOk hl hn
  exact @V.Good.mk (V.sigOf (sP ps (sortP ps))) _ _ named (@V.spec_of_tbl (V.sigOf (sP ps (sortP ps))) _ _ ht) (fun _ _ _ _ h => nomatch h) (@V.call_of_list (V.sigOf (sP ps (sortP ps))) _ _ (entOk h1 hl) _ rfl)
theorem in10 {n : Nat} (h1 : 1 ≤ n) (hl : n ≤ 10) : n ∈ qs10 := by simp only [qs10, List.mem_cons, List.not_mem_nil, or_false]; omega
theorem mappedHolds {ps : List (Int × Int)} (h1 : 1 ≤ ps.length) (hl : ps.length ≤ 10) (hn : ps.Pairwise fun a b => a.1 ≠ b.1) : @V.Holds V.sig0 Try.prog 71 [.lst (kvs ps)] [.lst (kvs (sortP ps)), .int .i64 0] := by
  have r := V.Holds.ins (plainP ps (sortP ps)) (@V.holds_of_tells (V.sigOf (sP ps (sortP ps))) _ _ (goodQ h1 hl hn) regs follows _ _ _ _ (runQ ps.length (in10 h1 hl)))
  have hs := sortP_len ps
  have e0 := inNmV0 ps (sortP ps) (by omega)
  have e4 := inNmV4 ps (sortP ps) (by omega)
  rw [hs] at e4
  simp only [V.inDs, V.inD, e0, e4] at r
  exact r
/-- a map of such pairs -/
def mapD (l : D) : D := .agg [.int .i64 13, .int .i64 0, mt, l, .nil]
def tW (q : Nat) : V.Tbl := [(71, [([.lst (nmV 0 q)], [.lst (nmV 40 q), .int .i64 0])])]
def aW (q : Nat) : V.An := { anE with spec := V.inTbl (tW q) }
set_option maxRecDepth 1000000 in
theorem runW : ∀ q ∈ qs10, V.tells Try.prog (aW q) 400 13 [mapD (.lst (nmV 0 q))] [mapD (.lst (nmV 40 q)), .int .i64 0] = true := by
  intro q hq
  simp only [qs10, List.mem_cons, List.not_mem_nil, or_false] at hq
  rcases hq with rfl | rfl | rfl | rfl | rfl | rfl | rfl | rfl | rfl | rfl
  all_goals kernel_rfl
set_option maxRecDepth 1000000 in
theorem runW0 : V.tells Try.prog anE 400 13 [mapD .nil] [mapD .nil, .int .i64 0] = true := by kernel_rfl
/-- pairs as a list of values, none as nil -/
def lstP (ps : List (Int × Int)) : D := if ps.length = 0 then .nil else .lst (kvs ps)
theorem normalHolds {ps : List (Int × Int)} (hl : ps.length ≤ 10) (hn : ps.Pairwise fun a b => a.1 ≠ b.1) : @V.Holds V.sig0 Try.prog 13 [mapD (lstP ps)] [mapD (lstP (sortP ps)), .int .i64 0] := by
  have hs := sortP_len ps
  by_cases h0 : ps.length = 0
  · have e : lstP ps = .nil := if_pos h0
    have e' : lstP (sortP ps) = .nil := if_pos (by omega)
    rw [e, e']
    exact @V.holds_of_tells V.sig0 _ _ (goodE _) regs follows _ _ _ _ runW0
  · have h1 : 1 ≤ ps.length := by omega
    have e : lstP ps = .lst (kvs ps) := if_neg h0
    have e' : lstP (sortP ps) = .lst (kvs (sortP ps)) := if_neg (by omega)
    have e0 := inNmV0 ps (sortP ps) (by omega)
    have e4 := inNmV4 ps (sortP ps) (by omega)
    rw [hs] at e4
    have hm : @V.Holds (V.sigOf (sP ps (sortP ps))) Try.prog 71 [.lst (nmV 0 ps.length)] [.lst (nmV 40 ps.length), .int .i64 0] := V.Holds.outs (plainP ps (sortP ps)) (by simp only [V.inDs, V.inD, e0, e4]; exact mappedHolds h1 hl hn)
    have ht : @V.TblOk (V.sigOf (sP ps (sortP ps))) Try.prog (tW ps.length) := @V.TblOk.cons (V.sigOf (sP ps (sortP ps))) _ _ _ _ (@V.RowOk.cons (V.sigOf (sP ps (sortP ps))) _ _ _ _ _ hm (@V.RowOk.nil (V.sigOf (sP ps (sortP ps))) _ _)) (@V.TblOk.nil (V.sigOf (sP ps (sortP ps))) _)
    have hg : @V.Good (V.sigOf (sP ps (sortP ps))) Try.prog (aW ps.length) := @V.Good.mk (V.sigOf (sP ps (sortP ps))) _ _ named (@V.spec_of_tbl (V.sigOf (sP ps (sortP ps))) _ _ ht) (fun _ _ _ _ h => nomatch h) (@V.call_none (V.sigOf (sP ps (sortP ps))) _ _ rfl)
    have r := V.Holds.ins (plainP ps (sortP ps)) (@V.holds_of_tells (V.sigOf (sP ps (sortP ps))) _ _ hg regs follows _ _ _ _ (runW ps.length (in10 h1 hl)))
    simp only [V.inDs, V.inD, mapD, mt, V.txt, e0, e4] at r
    rw [e, e']
    exact r
end Go.Proofs.Ytjofhegodknmaaa.Say
