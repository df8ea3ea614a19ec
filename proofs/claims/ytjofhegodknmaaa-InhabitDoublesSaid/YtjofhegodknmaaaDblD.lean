/- InhabitDoubles: what the trees come to. To: InhabitDoubles: the law's tree answers true. -/
import Derived.Test.YtjofhegodknmaaaDblA
import Derived.Test.YtjofhegodknmaaaXa
set_option linter.unusedSimpArgs false
set_option linter.unusedVariables false
/-! InhabitDoubles: what the trees come to. -/
namespace Go.Proofs.Ytjofhegodknmaaa.Dbl
open Go Go.RowKit
open W
open V (D)
abbrev F : FnT := fnT trees known
def fld (i j c : Nat) : D := .agg [.int .i64 j, .int .i64 1, nm i, V.txt [c], .bool false, .int .i64 0, .int .i64 0, V.txt [], .nil, .nil]
def st (k i : Nat) : D := .agg [.int .i64 4, nm i, if i < k then .lst [fld (i + 1) 1 97, fld (i + 1) 2 98] else .nil]
def sl (k : Nat) : List D := (List.range (k + 1)).map (st k)
def sch (k : Nat) : D := .agg [.lst (sl k), .nil, .nil]
theorem heads_all : (List.range 41).all (fun i => match known 74 [nm i] with | some r => V.beqDs r [.int .i64 0, nm i, V.txt [], V.txt [], .int .i64 0] | none => false) = true := by kernel_rfl
theorem head_ok {i : Nat} (hi : i ≤ 40) : Cv F 74 [nm i] [.int .i64 0, nm i, V.txt [], V.txt [], .int .i64 0] := by
  have := List.all_eq_true.1 heads_all i (List.mem_range.2 (by omega))
  split at this
  · rename_i r hr
    have := V.beqDs_eq _ _ this
    subst this
    exact .known rfl hr
  · simp at this
/-- no enums -/
theorem enum_ok {s : List D} {i : Nat} : Cv F 76 [.agg [.lst s, .nil, .nil], nm i] [.agg [V.txt [], .nil], .bool false] := by
  have hx : Cv F 106 [.nil, .fn 107 [.fp [nm i]]] [.int .i64 (-1)] := by
    refine .tree rfl rfl ?_
    refine R.op rfl rfl (R.bindO (R.loop rfl (L.out (R.op rfl (lssF (Int.le_refl 0)) (R.iteF rfl (R.fin rfl))) (by simp))) rfl (R.fin rfl))
  refine .tree rfl rfl ?_
  refine R.op rfl rfl (R.op rfl rfl (R.op rfl rfl (R.op rfl rfl (R.op rfl rfl (R.op rfl rfl (R.call rfl hx rfl (R.op rfl (lssT (by decide)) (R.iteT rfl (R.fin rfl)))))))))
/-! Ranks. -/
/-- what is held after so many rounds -/
def mp (k : Nat) : Nat → List D
  | 0 => []
  | j + 1 => mp k j ++ [nm (k - j), .int .i64 (j + 1)]
theorem mp_len (k : Nat) : ∀ j, (mp k j).length = 2 * j
  | 0 => rfl
  | j + 1 => by simp only [mp, List.length_append, mp_len k j, List.length_cons, List.length_nil]; omega
def bs (i : Nat) : ByteArray := ⟨⟨[97, 46, 65 + i / 26, 65 + i % 26].map UInt8.ofNat⟩⟩
theorem nm_bs (i : Nat) : nm i = .str (bs i) := rfl
theorem nm_ne_all : (List.range 41).all (fun i => (List.range 41).all fun j => V.beqT (bs i).data.toList (bs j).data.toList == Nat.beq i j) = true := by kernel_rfl
theorem nm_eq {i j : Nat} (hi : i ≤ 40) (hj : j ≤ 40) : V.beqT (bs i).data.toList (bs j).data.toList = Nat.beq i j := by
  have := List.all_eq_true.1 (List.all_eq_true.1 nm_ne_all i (List.mem_range.2 (by omega))) j (List.mem_range.2 (by omega))
  simpa using this
theorem look_app {s : List UInt8} : ∀ {a b : List D} {r : Option D}, lookM s a = some none → lookM s b = some r → lookM s (a ++ b) = some r
  | [], b, r, h, h' => h'
  | [x], b, r, h, h' => by cases x <;> simp [lookM] at h
  | x :: v :: q, b, r, h, h' => by
    cases x with
    | str y =>
      simp only [lookM, List.cons_append] at h ⊢
      split at h
      · simp at h
      · rename_i hy
        rw [if_neg hy]
        exact look_app h h'
    | _ => simp [lookM] at h
theorem look_app1 {s : List UInt8} {v : D} : ∀ {a b : List D}, lookM s a = some (some v) → lookM s (a ++ b) = some (some v)
  | [], b, h => by simp [lookM] at h
  | [x], b, h => by cases x <;> simp [lookM] at h
  | x :: w :: q, b, h => by
    cases x with
    | str y =>
      simp only [lookM, List.cons_append] at h ⊢
      split at h
      · rename_i hy; rw [if_pos hy]; exact h
      · rename_i hy
        rw [if_neg hy]
        exact look_app1 h
    | _ => simp [lookM] at h
/-- who has a rank then -/
theorem look_mp {k i : Nat} (hk : k ≤ 40) (hi : i ≤ k) : ∀ j, j ≤ k + 1 → lookM (bs i).data.toList (mp k j) = some (if k - i < j then some (.int .i64 ((k - i + 1 : Nat) : Int)) else none)
  | 0, _ => by simp [mp, lookM]
  | j + 1, hj => by
    have ih := look_mp hk hi j (by omega)
    simp only [mp]
    have hne : V.beqT (bs i).data.toList (bs (k - j)).data.toList = Nat.beq i (k - j) := nm_eq (by omega) (by omega)
    by_cases h1 : k - i < j
    · rw [if_pos h1] at ih
      rw [if_pos (by omega)]
      exact look_app1 ih
    · rw [if_neg h1] at ih
      by_cases h2 : k - i = j
      · rw [if_pos (by omega)]
        refine look_app ih ?_
        have : i = k - j := by omega
        simp only [nm_bs, lookM, hne]
        rw [← this, bnat, if_pos rfl]
        simp only [Option.some.injEq, D.int.injEq, true_and]
        omega
      · rw [if_neg (by omega)]
        refine look_app ih ?_
        have : Nat.beq i (k - j) = false := by
          cases e : Nat.beq i (k - j) with
          | false => rfl
          | true => have := Nat.eq_of_beq_eq_true e; omega
        simp [nm_bs, lookM, hne, this]
/-- a name's rank -/
theorem of_ok {k i j : Nat} (hk : k ≤ 40) (hi : i ≤ k) (hj : j ≤ k + 1) : Cv F 36 [.lst (mp k j), sch k, nm i] [.int .i64 (if k - i < j then ((k - i + 1 : Nat) : Int) else -1), .lst (mp k j)] := by
  have hl := look_mp hk hi j hj
  refine .tree rfl rfl ?_
  refine R.op rfl rfl (R.op rfl rfl (R.op rfl rfl (R.call rfl (head_ok (by omega)) rfl (R.op rfl (neqF rfl) (R.iteF rfl (R.op rfl (neqF rfl) (R.iteF rfl (R.call rfl enum_ok rfl (R.op rfl rfl (R.op rfl rfl (R.iteF rfl ?_)))))))))))
  by_cases h : k - i < j
  · rw [if_pos h] at hl ⊢
    exact R.op rfl (mgetI hl rfl) (R.op rfl (mhasI hl) (R.op rfl rfl (R.iteF rfl (R.fin rfl))))
  · rw [if_neg h] at hl ⊢
    exact R.op rfl (mgetI hl rfl) (R.op rfl (mhasI hl) (R.op rfl rfl (R.iteT rfl (R.fin rfl))))
end Go.Proofs.Ytjofhegodknmaaa.Dbl
/-! InhabitDoubles: ranks. -/
namespace Go.Proofs.Ytjofhegodknmaaa.Dbl
open Go Go.RowKit
open W
open V (D)
theorem one_some {k i j : Nat} {r : Int} (hr : 0 ≤ r) (hr2 : r ≤ 100) (ho : Cv F 36 [.lst (mp k j), sch k, nm (i + 1)] [.int .i64 r, .lst (mp k j)]) :
   Cv F 35 [.lst (mp k j), sch k, .agg [.int .i64 4, nm i, .lst [fld (i + 1) 1 97, fld (i + 1) 2 98]]] [.int .i64 (r + 1), .lst (mp k j)] := by
  refine .tree rfl rfl ?_
  iterate 6 refine R.op rfl rfl ?_
  refine R.op rfl (eqlF (by decide)) (R.iteF rfl (R.op rfl rfl ?_))
  simp only [List.cons_append, List.nil_append]
  refine R.bindO (R.loop rfl (L.more (ds' := [.int .i64 r, .int .i64 1, .lst (mp k j)]) ?_ rfl (L.more (ds' := [.int .i64 r, .int .i64 2, .lst (mp k j)]) ?_ rfl (L.out (R.op rfl (lssF (by simp)) (R.iteF rfl (R.fin rfl))) (by simp))))) rfl ?_
  · refine R.op rfl (lssT (by simp)) (R.iteT rfl (R.bindO (qs := [.int .i64 r, .lst (mp k j)]) ?_ rfl ?_))
    · refine R.op rfl (eltI (n := 0) rfl rfl rfl) ?_
      simp only [List.cons_append, List.nil_append]
      iterate 10 refine R.op rfl rfl ?_
      simp only [List.cons_append, List.nil_append]
      refine R.op rfl (neqF rfl) (R.iteF rfl (R.call rfl ho rfl ?_))
      simp only [List.cons_append, List.nil_append]
      exact R.op rfl (lssF hr) (R.iteF rfl (R.op rfl (mxI_le hr) (R.fin rfl)))
    · simp only [List.cons_append, List.nil_append]
      exact R.op rfl (addI rfl (by decide) (by decide)) (R.fin rfl)
  · refine R.op rfl (lssT (by simp)) (R.iteT rfl (R.bindO (qs := [.int .i64 r, .lst (mp k j)]) ?_ rfl ?_))
    · refine R.op rfl (eltI (n := 1) rfl rfl rfl) ?_
      simp only [List.cons_append, List.nil_append]
      iterate 10 refine R.op rfl rfl ?_
      simp only [List.cons_append, List.nil_append]
      refine R.op rfl (neqF rfl) (R.iteF rfl (R.call rfl ho rfl ?_))
      simp only [List.cons_append, List.nil_append]
      exact R.op rfl (lssF hr) (R.iteF rfl (R.op rfl (mxI_le (Int.le_refl _)) (R.fin rfl)))
    · simp only [List.cons_append, List.nil_append]
      exact R.op rfl (addI rfl (by decide) (by decide)) (R.fin rfl)
  · exact R.op rfl (addI rfl (by omega) (by omega)) (R.fin rfl)
theorem one_none {k i j : Nat} (ho : Cv F 36 [.lst (mp k j), sch k, nm (i + 1)] [.int .i64 (-1), .lst (mp k j)]) :
   Cv F 35 [.lst (mp k j), sch k, .agg [.int .i64 4, nm i, .lst [fld (i + 1) 1 97, fld (i + 1) 2 98]]] [.int .i64 (-1), .lst (mp k j)] := by
  refine .tree rfl rfl ?_
  iterate 6 refine R.op rfl rfl ?_
  refine R.op rfl (eqlF (by decide)) (R.iteF rfl (R.op rfl rfl ?_))
  simp only [List.cons_append, List.nil_append]
  refine R.bindP (R.loop rfl (L.out (R.op rfl (lssT (by simp)) (R.iteT rfl (R.bindP ?_ (by simp)))) (by simp))) (by simp)
  refine R.op rfl (eltI (n := 0) rfl rfl rfl) ?_
  simp only [List.cons_append, List.nil_append]
  iterate 10 refine R.op rfl rfl ?_
  simp only [List.cons_append, List.nil_append]
  refine R.op rfl (neqF rfl) (R.iteF rfl (R.call rfl ho rfl ?_))
  simp only [List.cons_append, List.nil_append]
  exact R.op rfl (lssT (by decide)) (R.iteT rfl (R.fin rfl))
theorem one_last {k i : Nat} {m : List D} : Cv F 35 [.lst m, sch k, .agg [.int .i64 4, nm i, .nil]] [.int .i64 1, .lst m] := by
  refine .tree rfl rfl ?_
  iterate 6 refine R.op rfl rfl ?_
  refine R.op rfl (eqlF (by decide)) (R.iteF rfl (R.op rfl rfl ?_))
  exact R.bindO (R.loop rfl (L.out (R.op rfl (lssF (by decide)) (R.iteF rfl (R.fin rfl))) (by simp))) rfl (R.op rfl (addI rfl (by decide) (by decide)) (R.fin rfl))
/-- a struct's rank -/
theorem one_ok {k i j : Nat} (hk : k ≤ 40) (hi : i ≤ k) (hj : j ≤ k + 1) : Cv F 35 [.lst (mp k j), sch k, st k i] [.int .i64 (if k - i ≤ j then ((k - i + 1 : Nat) : Int) else -1), .lst (mp k j)] := by
  by_cases hik : i < k
  · have hst : st k i = .agg [.int .i64 4, nm i, .lst [fld (i + 1) 1 97, fld (i + 1) 2 98]] := by simp [st, hik]
    rw [hst]
    have ho := of_ok (i := i + 1) (j := j) hk (by omega) hj
    by_cases h : k - (i + 1) < j
    · rw [if_pos h] at ho
      rw [if_pos (by omega)]
      have e : ((k - i + 1 : Nat) : Int) = ((k - (i + 1) + 1 : Nat) : Int) + 1 := by omega
      rw [e]
      exact one_some (by omega) (by omega) ho
    · rw [if_neg h] at ho
      rw [if_neg (by omega)]
      exact one_none ho
  · have hik' : i = k := by omega
    subst hik'
    have hst : st i i = .agg [.int .i64 4, nm i, .nil] := by simp [st]
    rw [hst, if_pos (by omega)]
    have e : ((i - i + 1 : Nat) : Int) = 1 := by omega
    rw [e]
    exact one_last
/-! All ranks. -/
theorem sl_len (k : Nat) : (sl k).length = k + 1 := by simp [sl]
theorem sl_get {k i : Nat} (hi : i ≤ k) : (sl k)[i]? = some (st k i) := by
  simp [sl, List.getElem?_map, List.getElem?_range (show i < k + 1 by omega)]
theorem put_app {s : ByteArray} {d : D} : ∀ {a : List D}, lookM s.data.toList a = some none → putM s d a = some (a ++ [.str s, d])
  | [], h => rfl
  | [x], h => by cases x <;> simp [lookM] at h
  | x :: v :: q, h => by
    cases x with
    | str y =>
      simp only [lookM] at h
      split at h
      · simp at h
      · rename_i hy
        simp only [putM, hy, if_false, put_app h, List.cons_append, Option.map_some]
        rfl
    | _ => simp [lookM] at h
/-- what is held next, with so many structs seen -/
def nx (k j i : Nat) : List D := if k - j < i ∧ j ≤ k then mp k (j + 1) else mp k j
theorem round_ok {k j : Nat} (hk : k ≤ 40) (hj : j ≤ k + 1) : ∀ (m i : Nat), m + i = k + 1 → ∀ {b : T} {a1 a2 : D}, F.t 17 = some (1, t17) →
    L F (match t17 with | .op _ _ (.op _ _ (.op _ _ (.loop _ (.op _ _ (.bind _ (.loop _ b) _ _))))) => b | _ => default) [sch k, .lst (sl k), a1, a2, .lst (mp k j), .int .i64 ((k + 1 : Nat) : Int)] [.int .i64 i, .lst (mp k j), .lst (nx k j i)] (.exit 2) [.lst (mp k j), .lst (nx k j (k + 1))]
  | 0, i, hm, b, a1, a2, _ => by
    have hi : i = k + 1 := by omega
    subst hi
    exact L.out (R.op rfl (lssF (Int.le_refl _)) (R.iteF rfl (R.fin rfl))) (by simp)
  | m + 1, i, hm, b, a1, a2, h17 => by
    have hik : i ≤ k := by omega
    have ih := round_ok hk hj m (i + 1) (by omega) (b := b) (a1 := a1) (a2 := a2) h17
    have hl := look_mp hk hik j hj
    have h1 := one_ok hk hik hj
    have hst : ∃ fs, st k i = .agg [.int .i64 4, nm i, fs] ∧ fs.one = true := ⟨_, rfl, by split <;> rfl⟩
    obtain ⟨fs, hst, hfs⟩ := hst
    refine L.more (ds' := [.int .i64 (i + 1 : Nat), .lst (mp k j), .lst (nx k j (i + 1))]) ?_ rfl ih
    refine R.op rfl (lssT (by omega)) (R.iteT rfl (R.bindO (qs := [.lst (mp k j), .lst (nx k j (i + 1))]) ?_ rfl ?_))
    · refine R.op rfl (eltI (n := i) rfl (sl_get hik) (by rw [hst]; rfl)) ?_
      rw [hst] at h1 ⊢
      have hall : [D.int .i64 4, nm i, fs].all D.one = true := by
        show (D.one (.int .i64 4) && (D.one (nm i) && (fs.one && true))) = true
        rw [hfs]; rfl
      have c0 : copD (.pop (.cell 0 3)) [.agg [.int .i64 4, nm i, fs]] = some (.int .i64 4) := cellI rfl rfl hall
      have c1 : copD (.pop (.cell 1 3)) [.agg [.int .i64 4, nm i, fs]] = some (nm i) := cellI rfl rfl hall
      have c2 : copD (.pop (.cell 2 3)) [.agg [.int .i64 4, nm i, fs]] = some fs := cellI rfl rfl hall
      refine R.op rfl c0 (R.op rfl c1 (R.op rfl c2 ?_))
      simp only [List.cons_append, List.nil_append]
      by_cases h : k - i < j
      · rw [if_pos h] at hl
        refine R.op rfl (mgetI hl rfl) (R.op rfl (mhasI hl) (R.iteT rfl (R.fin ?_)))
        have : nx k j (i + 1) = nx k j i := by
          unfold nx
          by_cases e : k - j < i ∧ j ≤ k
          · rw [if_pos e, if_pos (by omega)]
          · rw [if_neg e, if_neg (by omega)]
        rw [this]
        rfl
      · rw [if_neg h] at hl
        refine R.op rfl (mgetI hl rfl) (R.op rfl (mhasI hl) (R.iteF rfl (R.call rfl h1 rfl ?_)))
        simp only [List.cons_append, List.nil_append]
        by_cases h2 : k - i ≤ j
        · rw [if_pos h2]
          have hji : j = k - i := by omega
          have e0 : nx k j i = mp k j := by unfold nx; rw [if_neg (by omega)]
          have e1 : nx k j (i + 1) = mp k (j + 1) := by unfold nx; rw [if_pos (by omega)]
          rw [e0, e1]
          refine R.op rfl (geqT (by omega)) (R.iteT rfl (R.op rfl (mputI (r := mp k (j + 1)) ?_) (R.fin rfl)))
          refine (put_app (s := bs i) hl).trans ?_
          simp only [mp, nm_bs]
          have : k - j = i := by omega
          rw [this]
          have e3 : ((k - i + 1 : Nat) : Int) = (j : Int) + 1 := by omega
          rw [e3]
        · rw [if_neg h2]
          have e1 : nx k j (i + 1) = nx k j i := by unfold nx; rw [if_neg (by omega), if_neg (by omega)]
          rw [e1]
          exact R.op rfl (geqF (by decide)) (R.iteF rfl (R.fin rfl))
    · simp only [List.cons_append, List.nil_append]
      exact R.op rfl (addI (by omega) (by omega) (by omega)) (R.fin rfl)
theorem rounds_ok {k : Nat} (hk : k ≤ 40) : ∀ (m j : Nat), m + j = k + 1 →
    L F (match t17 with | .op _ _ (.op _ _ (.op _ _ (.loop _ b))) => b | _ => default) [sch k, .lst (sl k), .nil, .nil] [.lst (mp k j)] .ret [.lst (mp k (k + 1))]
  | 0, j, hm => by
    have hj : j = k + 1 := by omega
    subst hj
    refine L.out (R.op rfl (lenI (n := ((k + 1 : Nat) : Int)) (by rw [sl_len])) (R.bindO (R.loop rfl (round_ok hk (Nat.le_refl _) (k + 1) 0 rfl (b := default) rfl)) rfl ?_)) (by simp)
    have e : nx k (k + 1) (k + 1) = mp k (k + 1) := by unfold nx; rw [if_neg (by omega)]
    rw [e]
    simp only [List.cons_append, List.nil_append]
    refine R.op rfl rfl (R.op rfl rfl (R.op rfl (eqlT rfl) (R.iteT rfl (R.fin rfl))))
  | m + 1, j, hm => by
    have hj : j ≤ k := by omega
    refine L.more (ds' := [.lst (mp k (j + 1))]) (R.op rfl (lenI (n := ((k + 1 : Nat) : Int)) (by rw [sl_len])) (R.bindO (R.loop rfl (round_ok hk (by omega) (k + 1) 0 rfl (b := default) rfl)) rfl ?_)) rfl (rounds_ok hk m (j + 1) (by omega))
    have e : nx k j (k + 1) = mp k (j + 1) := by unfold nx; rw [if_pos (by omega)]
    rw [e]
    simp only [List.cons_append, List.nil_append]
    refine R.op rfl (mlenI (n := ((j + 1 : Nat) : Int)) (by rw [mp_len]; omega)) (R.op rfl (mlenI (n := (j : Int)) (by rw [mp_len]; omega)) (R.op rfl (eqlF (by omega)) (R.iteF rfl (R.fin rfl))))
/-- who has a rank -/
theorem has_ok {k : Nat} (hk : k ≤ 40) : Cv F 17 [sch k] [.lst (mp k (k + 1))] := by
  refine .tree rfl rfl ?_
  refine R.op rfl rfl (R.op rfl rfl (R.op rfl rfl ?_))
  simp only [List.cons_append, List.nil_append]
  exact R.loop rfl (rounds_ok hk (k + 1) 0 rfl)
end Go.Proofs.Ytjofhegodknmaaa.Dbl
/-! InhabitDoubles: structs by name, parts. -/
namespace Go.Proofs.Ytjofhegodknmaaa.Dbl
open Go Go.RowKit
open W
open V (D)
def flds (k i : Nat) : D := if i < k then .lst [fld (i + 1) 1 97, fld (i + 1) 2 98] else .nil
theorem st_eq (k i : Nat) : st k i = .agg [.int .i64 4, nm i, flds k i] := rfl
theorem flds_one (k i : Nat) : (flds k i).one = true := by unfold flds; split <;> rfl
theorem st_all (k i : Nat) : [D.int .i64 4, nm i, flds k i].all D.one = true := by
  show (D.one (.int .i64 4) && (D.one (nm i) && ((flds k i).one && true))) = true
  rw [flds_one]; rfl
theorem eq_all : (List.range 41).all (fun i => (List.range 41).all fun j => ((bs i).toList == (bs j).toList) == Nat.beq i j) = true := by kernel_rfl
theorem bs_eq {i j : Nat} (hi : i ≤ 40) (hj : j ≤ 40) : ((bs i).toList == (bs j).toList) = Nat.beq i j := by
  have := List.all_eq_true.1 (List.all_eq_true.1 eq_all i (List.mem_range.2 (by omega))) j (List.mem_range.2 (by omega))
  simpa using this
theorem is_ok {k m t : Nat} (hm : m ≤ 40) (ht : t ≤ 40) : Cv F 105 [st k m, .fp [nm t]] [.bool (Nat.beq m t)] := by
  refine .tree rfl rfl ?_
  rw [st_eq]
  have hall := st_all k m
  have c0 : copD (.pop (.cell 0 3)) [.agg [.int .i64 4, nm m, flds k m]] = some (.int .i64 4) := cellI rfl rfl hall
  have c1 : copD (.pop (.cell 1 3)) [.agg [.int .i64 4, nm m, flds k m]] = some (nm m) := cellI rfl rfl hall
  have c2 : copD (.pop (.cell 2 3)) [.agg [.int .i64 4, nm m, flds k m]] = some (flds k m) := cellI rfl rfl hall
  refine R.op rfl c0 (R.op rfl c1 (R.op rfl c2 ?_))
  simp only [List.cons_append, List.nil_append]
  refine R.op rfl rfl (R.op rfl rfl (R.op (d := .bool (Nat.beq m t)) rfl ?_ (R.fin rfl)))
  show binD .eql (.str (bs m)) (.str (bs t)) = _
  simp only [binD, bs_eq hm ht]
theorem find_ok {k t : Nat} (hk : k ≤ 40) (ht : t ≤ k) : ∀ (m i : Nat), m + i = t →
    L F (match t104 with | .op _ _ (.bind _ (.loop _ b) _ _) => b | _ => default) [.lst (sl k), .fn 105 [.fp [nm t]], .int .i64 ((k + 1 : Nat) : Int)] [.int .i64 i] .ret [.int .i64 t]
  | 0, i, hm => by
    have hi : i = t := by omega
    subst hi
    refine L.out (R.op rfl (lssT (by omega)) (R.iteT rfl (R.op rfl (eltI (n := i) rfl (sl_get ht) rfl) (R.callv rfl rfl rfl (is_ok (k := k) (m := i) (t := i) (by omega) (by omega)) rfl (R.iteT ?_ (R.fin rfl)))))) (by simp)
    rw [bnat]
    rfl
  | m + 1, i, hm => by
    have hne : Nat.beq i t = false := by
      cases e : Nat.beq i t with
      | false => rfl
      | true => have := Nat.eq_of_beq_eq_true e; omega
    refine L.more (ds' := [.int .i64 (i + 1 : Nat)]) (R.op rfl (lssT (by omega)) (R.iteT rfl (R.op rfl (eltI (n := i) rfl (sl_get (by omega)) rfl) (R.callv rfl rfl rfl (is_ok (k := k) (m := i) (t := t) (by omega) (by omega)) rfl (R.iteF ?_ (R.op rfl (addI (r := ((i + 1 : Nat) : Int)) (by omega) (by omega) (by omega)) (R.fin rfl))))))) rfl (find_ok hk ht m (i + 1) (by omega))
    rw [hne]
    rfl
theorem idx_ok {k t : Nat} (hk : k ≤ 40) (ht : t ≤ k) : Cv F 104 [.lst (sl k), .fn 105 [.fp [nm t]]] [.int .i64 t] := by
  refine .tree rfl rfl ?_
  refine R.op rfl (lenI (n := ((k + 1 : Nat) : Int)) (by rw [sl_len])) ?_
  simp only [List.cons_append, List.nil_append]
  exact R.bindP (R.loop rfl (find_ok hk ht t 0 rfl)) (by simp)
theorem struct_ok {k t : Nat} (hk : k ≤ 40) (ht : t ≤ k) : Cv F 75 [sch k, nm t] [st k t, .bool true] := by
  refine .tree rfl rfl ?_
  refine R.op rfl rfl (R.op rfl rfl (R.op rfl rfl (R.op rfl rfl (R.op rfl rfl (R.op rfl rfl ?_)))))
  simp only [List.cons_append, List.nil_append]
  refine R.call rfl (idx_ok hk ht) rfl (R.op rfl (lssF (by omega)) (R.iteF rfl (R.op rfl (eltI (n := t) rfl (sl_get ht) rfl) ?_)))
  simp only [List.cons_append, List.nil_append]
  have hall := st_all k t
  have c0 : copD (.pop (.cell 0 3)) [st k t] = some (.int .i64 4) := cellI rfl rfl hall
  have c1 : copD (.pop (.cell 1 3)) [st k t] = some (nm t) := cellI rfl rfl hall
  have c2 : copD (.pop (.cell 2 3)) [st k t] = some (flds k t) := cellI rfl rfl hall
  exact R.op rfl c0 (R.op rfl c1 (R.op rfl c2 (R.fin rfl)))
theorem kind_ok {k t : Nat} (hk : k ≤ 40) (ht : t ≤ k) : Cv F 33 [sch k, nm t] [.int .i64 12] := by
  refine .tree rfl rfl ?_
  refine R.op rfl rfl (R.op rfl rfl (R.op rfl rfl (R.call rfl (head_ok (by omega)) rfl (R.op rfl (neqF rfl) (R.iteF rfl (R.op rfl (neqF rfl) (R.iteF rfl ?_)))))))
  simp only [List.cons_append, List.nil_append]
  refine R.call rfl (struct_ok hk ht) rfl ?_
  simp only [List.cons_append, List.nil_append]
  have hall := st_all k t
  have c0 : copD (.pop (.cell 0 3)) [st k t] = some (.int .i64 4) := cellI rfl rfl hall
  have c1 : copD (.pop (.cell 1 3)) [st k t] = some (nm t) := cellI rfl rfl hall
  have c2 : copD (.pop (.cell 2 3)) [st k t] = some (flds k t) := cellI rfl rfl hall
  exact R.op rfl c0 (R.op rfl c1 (R.op rfl c2 (R.iteT rfl (R.fin rfl))))
/-- the parts of a struct: all its fields -/
theorem parts_ok {k i : Nat} {m a b c : D} : Cv F 32 [m, a, b, c, st k i] [flds k i, m, a, b, c] := by
  refine .tree rfl rfl ?_
  have hall := st_all k i
  have c0 : copD (.pop (.cell 0 3)) [st k i] = some (.int .i64 4) := cellI rfl rfl hall
  have c1 : copD (.pop (.cell 1 3)) [st k i] = some (nm i) := cellI rfl rfl hall
  have c2 : copD (.pop (.cell 2 3)) [st k i] = some (flds k i) := cellI rfl rfl hall
  refine R.op rfl c0 (R.op rfl c1 (R.op rfl c2 (R.op rfl (eqlF (by decide)) (R.iteF rfl ?_))))
  simp only [List.cons_append, List.nil_append]
  unfold flds
  split
  · refine R.op rfl rfl ?_
    simp only [List.cons_append, List.nil_append]
    refine R.bindO (R.loop rfl (L.more (ds' := [.int .i64 1, .lst [fld (i + 1) 1 97]]) ?_ rfl (L.more (ds' := [.int .i64 2, .lst [fld (i + 1) 1 97, fld (i + 1) 2 98]]) ?_ rfl (L.out (R.op rfl (lssF (by simp)) (R.iteF rfl (R.fin rfl))) (by simp))))) rfl (R.fin rfl)
    · refine R.op rfl (lssT (by simp)) (R.iteT rfl (R.bindO (qs := [.lst [fld (i + 1) 1 97]]) ?_ rfl ?_))
      · refine R.op rfl (eltI (n := 0) rfl rfl rfl) ?_
        simp only [List.cons_append, List.nil_append]
        iterate 10 refine R.op rfl rfl ?_
        simp only [List.cons_append, List.nil_append]
        exact R.op rfl (eqlT rfl) (R.iteT rfl (R.op rfl rfl (R.op rfl rfl (R.fin rfl))))
      · simp only [List.cons_append, List.nil_append]
        exact R.op rfl (addI rfl (by decide) (by decide)) (R.fin rfl)
    · refine R.op rfl (lssT (by simp)) (R.iteT rfl (R.bindO (qs := [.lst [fld (i + 1) 1 97, fld (i + 1) 2 98]]) ?_ rfl ?_))
      · refine R.op rfl (eltI (n := 1) rfl rfl rfl) ?_
        simp only [List.cons_append, List.nil_append]
        iterate 10 refine R.op rfl rfl ?_
        simp only [List.cons_append, List.nil_append]
        exact R.op rfl (eqlT rfl) (R.iteT rfl (R.op rfl rfl (R.op rfl rfl (R.fin rfl))))
      · simp only [List.cons_append, List.nil_append]
        exact R.op rfl (addI rfl (by decide) (by decide)) (R.fin rfl)
  · refine R.op rfl rfl ?_
    simp only [List.cons_append, List.nil_append]
    exact R.bindO (R.loop rfl (L.out (R.op rfl (lssF (by decide)) (R.iteF rfl (R.fin rfl))) (by simp))) rfl (R.fin rfl)
end Go.Proofs.Ytjofhegodknmaaa.Dbl
/-! InhabitDoubles: weights. -/
namespace Go.Proofs.Ytjofhegodknmaaa.Dbl
open Go Go.RowKit
open W
open V (D)
/-- how great a struct is, so far from the last one -/
def wt : Nat → Int
  | 0 => 1
  | d + 1 => min (min (1 + wt d) 1000000 + wt d) 1000000
theorem wt_le : ∀ d, 1 ≤ wt d ∧ wt d ≤ 1000000
  | 0 => by decide
  | d + 1 => by
    obtain ⟨h1, h2⟩ := wt_le d
    simp only [wt]
    omega
/-- what is weighed after so many rounds -/
def om (k : Nat) : Nat → List D
  | 0 => []
  | j + 1 => om k j ++ [nm (k - j), .int .i64 (wt j)]
theorem om_len (k : Nat) : ∀ j, (om k j).length = 2 * j
  | 0 => rfl
  | j + 1 => by simp only [om, List.length_append, om_len k j, List.length_cons, List.length_nil]; omega
theorem look_om {k i : Nat} (hk : k ≤ 40) (hi : i ≤ k) : ∀ j, j ≤ k + 1 → lookM (bs i).data.toList (om k j) = some (if k - i < j then some (.int .i64 (wt (k - i))) else none)
  | 0, _ => by simp [om, lookM]
  | j + 1, hj => by
    have ih := look_om hk hi j (by omega)
    simp only [om]
    have hne : V.beqT (bs i).data.toList (bs (k - j)).data.toList = Nat.beq i (k - j) := nm_eq (by omega) (by omega)
    by_cases h1 : k - i < j
    · rw [if_pos h1] at ih
      rw [if_pos (by omega)]
      exact look_app1 ih
    · rw [if_neg h1] at ih
      by_cases h2 : k - i = j
      · rw [if_pos (by omega)]
        refine look_app ih ?_
        have : i = k - j := by omega
        simp only [nm_bs, lookM, hne]
        rw [← this, bnat, if_pos rfl, h2]
      · rw [if_neg (by omega)]
        refine look_app ih ?_
        have : Nat.beq i (k - j) = false := by
          cases e : Nat.beq i (k - j) with
          | false => rfl
          | true => have := Nat.eq_of_beq_eq_true e; omega
        simp [nm_bs, lookM, hne, this]
def b0 : T := match t16 with | .op _ _ (.op _ _ (.op _ _ (.call _ _ _ (.bind _ (.loop _ b) _ _)))) => b | _ => default
def b1 : T := match b0 with | .op _ _ (.op _ _ (.op _ _ (.ite _ (.op _ _ (.ite _ (.op _ _ (.bind _ (.loop _ b) _ _)) _)) _))) => b | _ => default
def b2 : T := match b1 with | .op _ _ (.ite _ (.bind _ (.op _ _ (.op _ _ (.op _ _ (.op _ _ (.op _ _ (.op _ _ (.ite _ _ (.op _ _ (.op _ _ (.ite _ _ (.call _ _ _ (.op _ _ (.bind _ (.loop _ b) _ _))))))))))))) _ _) _) => b | _ => default
/-- the parts' weights together -/
theorem fields_ok {k i j : Nat} (hk : k ≤ 40) (hi : i < k) (hj : k - (i + 1) < j) (hj2 : j ≤ k + 1) {a1 a2 a3 a4 a5 a6 a7 a8 a9 a10 a11 a12 a13 a14 a15 a16 a17 a18 a19 a21 a22 a23 a24 a25 a26 a27 a28 a29 a30 a32 a33 a34 a35 : D} :
    L F b2 [sch k, a1, a2, a3, a4, a5, a6, a7, a8, a9, a10, a11, a12, a13, a14, a15, a16, a17, a18, a19, .lst (om k j), a21, a22, a23, a24, a25, a26, a27, a28, a29, a30, .lst [fld (i + 1) 1 97, fld (i + 1) 2 98], a32, a33, a34, a35, .int .i64 2] [.int .i64 1, .int .i64 0] (.exit 4) [.int .i64 (wt (k - i))] := by
  have hl := look_om hk (i := i + 1) (by omega) j hj2
  rw [if_pos hj] at hl
  obtain ⟨w1, w2⟩ := wt_le (k - (i + 1))
  have he : wt (k - i) = min (min (1 + wt (k - (i + 1))) 1000000 + wt (k - (i + 1))) 1000000 := by
    have : k - i = (k - (i + 1)) + 1 := by omega
    rw [this]; rfl
  have hkd := kind_ok (k := k) (t := i + 1) hk (by omega)
  refine L.more (ds' := [.int .i64 (min (1 + wt (k - (i + 1))) 1000000), .int .i64 1]) ?_ rfl (L.more (ds' := [.int .i64 (wt (k - i)), .int .i64 2]) ?_ rfl (L.out (R.op rfl (lssF (by decide)) (R.iteF rfl (R.fin rfl))) (by simp)))
  · simp only [List.cons_append, List.nil_append]
    refine R.op rfl (lssT (by decide)) (R.iteT rfl (R.op rfl (eltI (n := 0) rfl rfl rfl) ?_))
    simp only [List.cons_append, List.nil_append]
    iterate 10 refine R.op rfl rfl ?_
    simp only [List.cons_append, List.nil_append]
    refine R.bindO (qs := [.int .i64 (wt (k - (i + 1)))]) (R.call rfl hkd rfl (R.op rfl (eqlT rfl) (R.iteT rfl (R.op rfl (mgetI hl rfl) (R.fin rfl))))) rfl ?_
    simp only [List.cons_append, List.nil_append]
    exact R.op rfl (addI rfl (by omega) (by omega)) (R.op rfl mnI (R.op rfl (addI rfl (by decide) (by decide)) (R.fin rfl)))
  · simp only [List.cons_append, List.nil_append]
    refine R.op rfl (lssT (by decide)) (R.iteT rfl (R.op rfl (eltI (n := 1) rfl rfl rfl) ?_))
    simp only [List.cons_append, List.nil_append]
    iterate 10 refine R.op rfl rfl ?_
    simp only [List.cons_append, List.nil_append]
    refine R.bindO (qs := [.int .i64 (wt (k - (i + 1)))]) (R.call rfl hkd rfl (R.op rfl (eqlT rfl) (R.iteT rfl (R.op rfl (mgetI hl rfl) (R.fin rfl))))) rfl ?_
    simp only [List.cons_append, List.nil_append]
    rw [he]
    exact R.op rfl (addI rfl (by omega) (by omega)) (R.op rfl mnI (R.op rfl (addI rfl (by decide) (by decide)) (R.fin rfl)))
def nxo (k j i : Nat) : List D := if k - j < i then om k (j + 1) else om k j
theorem wround_ok {k j : Nat} (hk : k ≤ 40) (hj : j ≤ k) {a2 a3 a4 a6 a7 a8 a9 a10 a11 a12 a13 a14 : D} : ∀ (m i : Nat), m + i = k + 1 →
    L F b1 [sch k, .lst (sl k), a2, a3, a4, .int .i64 ((j + 1 : Nat) : Int), a6, a7, a8, a9, a10, a11, a12, a13, a14, .int .i64 ((k + 1 : Nat) : Int)] [.int .i64 i, .lst (sl k), .nil, .nil, .lst (nxo k j i), .lst (mp k (k + 1))] (.exit 2) [.lst (sl k), .nil, .nil, .lst (nxo k j (k + 1)), .lst (mp k (k + 1))]
  | 0, i, hm => by
    have hi : i = k + 1 := by omega
    subst hi
    exact L.out (R.op rfl (lssF (Int.le_refl _)) (R.iteF rfl (R.fin rfl))) (by simp)
  | m + 1, i, hm => by
    have hik : i ≤ k := by omega
    have ih := wround_ok hk hj (a2 := a2) (a3 := a3) (a4 := a4) (a6 := a6) (a7 := a7) (a8 := a8) (a9 := a9) (a10 := a10) (a11 := a11) (a12 := a12) (a13 := a13) (a14 := a14) m (i + 1) (by omega)
    have hall := st_all k i
    have c0 : copD (.pop (.cell 0 3)) [st k i] = some (.int .i64 4) := cellI rfl rfl hall
    have c1 : copD (.pop (.cell 1 3)) [st k i] = some (nm i) := cellI rfl rfl hall
    have c2 : copD (.pop (.cell 2 3)) [st k i] = some (flds k i) := cellI rfl rfl hall
    have hr := look_mp hk hik (k + 1) (Nat.le_refl _)
    rw [if_pos (by omega)] at hr
    -- what is weighed by now
    have hoj : ∃ j', nxo k j i = om k j' ∧ j' ≤ k + 1 ∧ (j' = j ∨ (j' = j + 1 ∧ k - j < i)) := by
      unfold nxo
      split
      · exact ⟨j + 1, rfl, by omega, .inr ⟨rfl, by assumption⟩⟩
      · exact ⟨j, rfl, by omega, .inl rfl⟩
    obtain ⟨j', ho, hj1, hj2⟩ := hoj
    have hl := look_om hk hik j' hj1
    refine L.more (ds' := [.int .i64 (i + 1 : Nat), .lst (sl k), .nil, .nil, .lst (nxo k j (i + 1)), .lst (mp k (k + 1))]) ?_ rfl ih
    refine R.op rfl (lssT (by omega)) (R.iteT rfl (R.bindO (qs := [.lst (sl k), .nil, .nil, .lst (nxo k j (i + 1)), .lst (mp k (k + 1))]) ?_ rfl ?_))
    · simp only [List.cons_append, List.nil_append]
      refine R.op rfl (eltI (n := i) rfl (sl_get hik) rfl) (R.op rfl c0 (R.op rfl c1 (R.op rfl c2 ?_)))
      simp only [List.cons_append, List.nil_append]
      rw [ho]
      by_cases h : k - i < j'
      · -- weighed
        rw [if_pos h] at hl
        have e : nxo k j (i + 1) = om k j' := by
          rw [← ho]
          unfold nxo
          by_cases e : k - j < i
          · rw [if_pos e, if_pos (by omega)]
          · rw [if_neg e, if_neg (by omega)]
        rw [e]
        exact R.op rfl (mgetI hl rfl) (R.op rfl (mhasI hl) (R.iteT rfl (R.fin rfl)))
      · rw [if_neg h] at hl
        refine R.op rfl (mgetI hl rfl) (R.op rfl (mhasI hl) (R.iteF rfl (R.op rfl (mgetI hr rfl) ?_)))
        simp only [List.cons_append, List.nil_append]
        by_cases h2 : k - i = j
        · have hj3 : j' = j := by omega
          subst hj3
          have e1 : nxo k j' (i + 1) = om k (j' + 1) := by unfold nxo; rw [if_pos (by omega)]
          rw [e1]
          refine R.op rfl (neqF (by show (((k - i + 1 : Nat) : Int)) = _; omega)) (R.iteF rfl (R.call rfl (parts_ok (k := k) (i := i)) rfl ?_))
          simp only [List.cons_append, List.nil_append]
          have hput : copD .mput [.lst (om k j'), nm i, .int .i64 (wt (k - i))] = some (.lst (om k (j' + 1))) := by
            refine mputI ?_
            refine (put_app (s := bs i) hl).trans ?_
            simp only [om, nm_bs]
            have e3 : k - j' = i := by omega
            rw [e3, h2]
          by_cases hlt : i < k
          · have hf : flds k i = .lst [fld (i + 1) 1 97, fld (i + 1) 2 98] := by simp [flds, hlt]
            rw [hf]
            refine R.op rfl (lenI (n := 2) rfl) ?_
            simp only [List.cons_append, List.nil_append]
            refine R.bindO (qs := [.int .i64 (wt (k - i))]) (R.loop rfl (fields_ok hk hlt (by omega) hj1)) rfl ?_
            simp only [List.cons_append, List.nil_append]
            exact R.op rfl hput (R.fin rfl)
          · have hf : flds k i = .nil := by simp [flds, hlt]
            rw [hf]
            have hw : wt (k - i) = 1 := by
              have : k - i = 0 := by omega
              rw [this]; rfl
            rw [hw] at hput
            refine R.op rfl rfl ?_
            simp only [List.cons_append, List.nil_append]
            refine R.bindO (qs := [.int .i64 1]) (R.loop rfl (L.out (R.op rfl (lssF (by decide)) (R.iteF rfl (R.fin rfl))) (by simp))) rfl ?_
            simp only [List.cons_append, List.nil_append]
            exact R.op rfl hput (R.fin rfl)
        · have e : nxo k j (i + 1) = om k j' := by
            rw [← ho]
            unfold nxo
            by_cases e : k - j < i
            · rw [if_pos e, if_pos (by omega)]
            · rw [if_neg e, if_neg (by omega)]
          rw [e]
          exact R.op rfl (neqT (by show (((k - i + 1 : Nat) : Int)) ≠ _; omega)) (R.iteT rfl (R.fin rfl))
    · simp only [List.cons_append, List.nil_append]
      exact R.op rfl (addI (r := ((i + 1 : Nat) : Int)) (by omega) (by omega) (by omega)) (R.fin rfl)
theorem wrounds_ok {k : Nat} (hk : k ≤ 40) : ∀ (m j : Nat), m + j = k + 1 →
    L F b0 [sch k, .lst (sl k), .nil, .nil, .lst (mp k (k + 1))] [.int .i64 ((j + 1 : Nat) : Int), .lst (sl k), .nil, .nil, .lst (om k j), .lst (mp k (k + 1))] (.exit 0) [.lst (om k (k + 1))]
  | 0, j, hm => by
    have hj : j = k + 1 := by omega
    subst hj
    refine L.out (R.op rfl (mlenI (n := ((k + 1 : Nat) : Int)) (by rw [om_len]; omega)) (R.op rfl (mlenI (n := ((k + 1 : Nat) : Int)) (by rw [mp_len]; omega)) (R.op rfl (lssF (Int.le_refl _)) (R.iteF rfl (R.fin rfl))))) (by simp)
  | m + 1, j, hm => by
    have hj : j ≤ k := by omega
    refine L.more (ds' := [.int .i64 ((j + 1 + 1 : Nat) : Int), .lst (sl k), .nil, .nil, .lst (om k (j + 1)), .lst (mp k (k + 1))]) ?_ rfl (wrounds_ok hk m (j + 1) (by omega))
    simp only [List.cons_append, List.nil_append]
    refine R.op rfl (mlenI (n := (j : Int)) (by rw [om_len]; omega)) (R.op rfl (mlenI (n := ((k + 1 : Nat) : Int)) (by rw [mp_len]; omega)) (R.op rfl (lssT (by omega)) (R.iteT rfl (R.op rfl (leqT (by omega)) (R.iteT rfl (R.op rfl (lenI (n := ((k + 1 : Nat) : Int)) (by rw [sl_len])) ?_))))))
    simp only [List.cons_append, List.nil_append]
    have e0 : om k j = nxo k j 0 := by unfold nxo; rw [if_neg (by omega)]
    have e1 : om k (j + 1) = nxo k j (k + 1) := by unfold nxo; rw [if_pos (by omega)]
    rw [e1]
    refine R.bindO (qs := [.lst (sl k), .nil, .nil, .lst (nxo k j (k + 1)), .lst (mp k (k + 1))]) (R.loop (ds := [.int .i64 (0 : Nat), .lst (sl k), .nil, .nil, .lst (nxo k j 0), .lst (mp k (k + 1))]) (by rw [← e0]; rfl) (wround_ok hk hj (k + 1) 0 rfl)) rfl ?_
    simp only [List.cons_append, List.nil_append]
    exact R.op rfl (addI (r := ((j + 1 + 1 : Nat) : Int)) (by omega) (by omega) (by omega)) (R.fin rfl)
/-- weights -/
theorem weights_ok {k : Nat} (hk : k ≤ 40) : Cv F 16 [sch k] [.lst (om k (k + 1))] := by
  refine .tree rfl rfl ?_
  refine R.op rfl rfl (R.op rfl rfl (R.op rfl rfl (R.call rfl (has_ok hk) rfl ?_)))
  simp only [List.cons_append, List.nil_append]
  exact R.bindO (R.loop rfl (wrounds_ok hk (k + 1) 0 rfl)) rfl (R.fin rfl)
end Go.Proofs.Ytjofhegodknmaaa.Dbl
/-! InhabitDoubles: the law's tree answers true. -/
namespace Go.Proofs.Ytjofhegodknmaaa.Dbl
open Go Go.RowKit
open W
open V (D)
theorem begun_ok : Cv F 15 [] [.bool true] := runs_ok (k := 300) (by kernel_rfl)
theorem quoI {m : Nat} (hm : m ≤ 100) : copD (.bin .quo) [.int .i64 m, .int .i64 26] = some (.int .i64 ((m / 26 : Nat) : Int)) := by
  have h : ((m : Int)).tdiv 26 = ((m / 26 : Nat) : Int) := rfl
  have hw : IntKind.i64.wrap ((m / 26 : Nat) : Int) = ((m / 26 : Nat) : Int) := wrap64 (by omega) (by omega)
  simp only [copD, binD, V.shiftOp, V.cmpI, V.ariI, Bool.false_eq_true, if_false, if_true, h, hw]
  rfl
theorem remI {m : Nat} : copD (.bin .rem) [.int .i64 m, .int .i64 26] = some (.int .i64 ((m % 26 : Nat) : Int)) := by
  have h : ((m : Int)).tmod 26 = ((m % 26 : Nat) : Int) := rfl
  simp only [copD, binD, V.shiftOp, V.cmpI, V.ariI, Bool.false_eq_true, if_false, if_true, h]
  rfl
theorem u8I {m : Nat} (h : m ≤ 255) : copD (.conv .u8) [.int .i64 m] = some (.int .u8 m) := by
  have : IntKind.u8.wrap (m : Int) = m := by rw [V.wr_u8]; omega
  simp [copD, this]
theorem roomI {l : List D} (h : l.length ≤ 100) : copD (.pop (.room 1 48)) [.lst l] = some (.bool true) := by
  have : Nat.ble ((l.length + 1) * 48) 140737488355328 = true := Nat.ble_eq_true_of_le (by omega)
  simp [copD, freeP, popD, lstOf, this]
theorem row_st (k i : Nat) : rowOk 3 true (st k i) = true := by
  show (true && Nat.beq 3 3 && [D.int .i64 4, nm i, flds k i].all D.one) = true
  rw [st_all]; rfl
theorem mkI {k i : Nat} : copD (.pop (.mkLst 3 true)) [st k i] = some (.lst [st k i]) := by
  simp [copD, freeP, popD, row_st]
theorem aggI {k i : Nat} : copD (.pop .mkAgg) [.int .i64 4, nm i, flds k i] = some (st k i) := by
  have h := st_all k i
  simp only [copD, freeP, if_true, popD, h]
  rfl
theorem catI {k i : Nat} {l : List D} (h : l.length ≤ 100) : copD (.pop (.cat 3 48 true)) [.lst l, .lst [st k i]] = some (.lst (l ++ [st k i])) := by
  have : Nat.ble ((l.length + 1) * 48) 140737488355328 = true := Nat.ble_eq_true_of_le (by omega)
  simp [copD, freeP, popD, lstOf, srcD, row_st, this]
theorem catN {k i : Nat} : copD (.pop (.cat 3 48 true)) [.nil, .lst [st k i]] = some (.lst [st k i]) := by
  simp [copD, freeP, popD, lstOf, srcD, row_st]
/-- a name, put together -/
def txts (i : Nat) : D := .str ⟨[UInt8.ofNat (65 + i / 26), UInt8.ofNat (65 + i % 26)].toArray⟩
theorem name_all : (List.range 41).all (fun i => match binD .add (V.txt [97, 46]) (txts i) with | some d => V.beqD d (nm i) | none => false) = true := by kernel_rfl
theorem name_ok {i : Nat} (hi : i ≤ 40) : copD (.bin .add) [V.txt [97, 46], txts i] = some (nm i) := by
  have := List.all_eq_true.1 name_all i (List.mem_range.2 (by omega))
  split at this
  · rename_i d hd
    rw [V.beqD_eq _ _ this] at hd
    exact hd
  · simp at this
theorem textI {i : Nat} : copD .text [.lst [.int .u8 ((65 + i / 26 : Nat) : Int), .int .u8 ((65 + i % 26 : Nat) : Int)]] = some (txts i) := rfl
theorem lstI {a b : D} (ha : rowOk 1 false a = true) (hb : rowOk 1 false b = true) : copD (.pop (.mkLst 1 false)) [a, b] = some (.lst [a, b]) := by
  simp [copD, freeP, popD, ha, hb]
theorem row8 {n : Int} : rowOk 1 false (.int .u8 n) = true := rfl
def tb : T := match t6 with | .call _ _ _ (.op _ _ (.ite _ _ (.op _ _ (.op _ _ (.op _ _ (.bind _ (.loop _ b) _ _)))))) => b | _ => default
/-- the structs so far -/
def pre (k : Nat) : Nat → D
  | 0 => .nil
  | i + 1 => .lst ((List.range (i + 1)).map (st k))
theorem build_ok {k : Nat} (hk : k ≤ 40) {a0 a1 a2 a3 a4 : D} : ∀ (m i : Nat), m + i = k + 1 → L F tb [a0, a1, a2, a3, a4, .int .i64 k] [.int .i64 i, pre k i] (.exit 0) [.lst (sl k)]
  | 0, i, hm => by
    have hi : i = k + 1 := by omega
    subst hi
    exact L.out (R.op rfl (leqF (by omega)) (R.iteF rfl (R.fin rfl))) (by simp)
  | m + 1, i, hm => by
    have hik : i ≤ k := by omega
    have ih := build_ok hk (a0 := a0) (a1 := a1) (a2 := a2) (a3 := a3) (a4 := a4) m (i + 1) (by omega)
    refine L.more (ds' := [.int .i64 (i + 1 : Nat), pre k (i + 1)]) ?_ rfl ih
    simp only [List.cons_append, List.nil_append]
    refine R.op rfl (leqT (by omega)) (R.iteT rfl ?_)
    refine R.op rfl (quoI (by omega)) (R.op rfl (addI (r := ((65 + i / 26 : Nat) : Int)) (by omega) (by omega) (by omega)) (R.op rfl (u8I (by omega)) ?_))
    simp only [List.cons_append, List.nil_append]
    refine R.op rfl remI (R.op rfl (addI (r := ((65 + i % 26 : Nat) : Int)) (by omega) (by omega) (by omega)) (R.op rfl (u8I (by omega)) ?_))
    simp only [List.cons_append, List.nil_append]
    refine R.op rfl (lstI row8 row8) (R.op rfl textI (R.op rfl (name_ok (by omega)) ?_))
    simp only [List.cons_append, List.nil_append]
    refine R.bindO (qs := [flds k i]) ?_ rfl ?_
    · by_cases hlt : i < k
      · have hf : flds k i = .lst [fld (i + 1) 1 97, fld (i + 1) 2 98] := by simp [flds, hlt]
        rw [hf]
        refine R.op rfl (lssT (by omega)) (R.iteT rfl (R.op rfl (addI (r := ((i + 1 : Nat) : Int)) (by omega) (by omega) (by omega)) ?_))
        simp only [List.cons_append, List.nil_append]
        refine R.op rfl (quoI (by omega)) (R.op rfl (addI (r := ((65 + (i + 1) / 26 : Nat) : Int)) (by omega) (by omega) (by omega)) (R.op rfl (u8I (by omega)) ?_))
        simp only [List.cons_append, List.nil_append]
        refine R.op rfl (addI (r := ((i + 1 : Nat) : Int)) (by omega) (by omega) (by omega)) (R.op rfl remI (R.op rfl (addI (r := ((65 + (i + 1) % 26 : Nat) : Int)) (by omega) (by omega) (by omega)) (R.op rfl (u8I (by omega)) ?_)))
        simp only [List.cons_append, List.nil_append]
        refine R.op rfl (lstI row8 row8) (R.op rfl textI (R.op rfl (name_ok (by omega)) ?_))
        simp only [List.cons_append, List.nil_append]
        exact R.op (d := fld (i + 1) 1 97) rfl rfl (R.op (d := fld (i + 1) 2 98) rfl rfl (R.op (d := .lst [fld (i + 1) 1 97, fld (i + 1) 2 98]) rfl rfl (R.fin rfl)))
      · have hf : flds k i = .nil := by simp [flds, hlt]
        rw [hf]
        exact R.op rfl (lssF (by omega)) (R.iteF rfl (R.fin rfl))
    · simp only [List.cons_append, List.nil_append]
      cases i with
      | zero =>
        refine R.op (d := .bool true) rfl rfl (R.op rfl aggI (R.op rfl mkI (R.op rfl catN ?_)))
        simp only [List.cons_append, List.nil_append]
        exact R.op rfl (addI (r := ((0 + 1 : Nat) : Int)) (by omega) (by omega) (by omega)) (R.fin rfl)
      | succ i =>
        have hl : ((List.range (i + 1)).map (st k)).length ≤ 100 := by simp; omega
        refine R.op (d := .bool true) rfl (roomI hl) (R.op rfl aggI (R.op rfl mkI (R.op rfl (catI hl) ?_)))
        simp only [List.cons_append, List.nil_append]
        refine R.op rfl (addI (r := ((i + 1 + 1 : Nat) : Int)) (by omega) (by omega) (by omega)) (R.fin ?_)
        have : pre k (i + 1 + 1) = .lst ((List.range (i + 1)).map (st k) ++ [st k (i + 1)]) := by
          simp only [pre]
          rw [List.range_succ (n := i + 1), List.map_append]
          rfl
        rw [this]
        rfl
/-! What is wanted. -/
def want (k : Nat) : Int := if k < 19 then 2 ^ (k + 1) - 1 else 1000000
theorem want_all : (List.range 41).all (fun k => decide (wt k = min (want k) 1000000)) = true := by kernel_rfl
theorem want_ok {k : Nat} (hk : k ≤ 40) : wt k = min (want k) 1000000 := by
  have := List.all_eq_true.1 want_all k (List.mem_range.2 (by omega))
  simpa using this
theorem shl_all : (List.range 19).all (fun k => match binD .shl (.int .i64 1) (.int .i64 ((k + 1 : Nat) : Int)) with | some d => V.beqD d (.int .i64 (want k + 1)) | none => false) = true := by kernel_rfl
theorem shl_ok {k : Nat} (hk : k < 19) : copD (.bin .shl) [.int .i64 1, .int .i64 ((k + 1 : Nat) : Int)] = some (.int .i64 (want k + 1)) := by
  have := List.all_eq_true.1 shl_all k (List.mem_range.2 hk)
  split at this
  · rename_i d hd
    rw [V.beqD_eq _ _ this] at hd
    exact hd
  · simp at this
theorem wle_all : (List.range 41).all (fun k => decide (0 ≤ want k ∧ (k < 19 → want k ≤ 1000000))) = true := by kernel_rfl
theorem want_le {k : Nat} (hk : k ≤ 40) : 0 ≤ want k ∧ (k < 19 → want k ≤ 1000000) := by
  have := List.all_eq_true.1 wle_all k (List.mem_range.2 (by omega))
  exact of_decide_eq_true this
theorem subI {m n r : Int} (h : r = m - n) (h1 : -9223372036854775808 ≤ r) (h2 : r ≤ 9223372036854775807) : copD (.bin .sub) [.int .i64 m, .int .i64 n] = some (.int .i64 r) := by
  subst h
  simp only [copD, binD, V.shiftOp, V.cmpI, V.ariI, Bool.false_eq_true, if_false, if_true, wrap64 h1 h2]
theorem law_ok {n : Nat} (hn : n ≤ 255) : Cv F 6 [.int .u8 n] [.bool true] := by
  have hk : n % 40 + 1 ≤ 40 := by omega
  generalize hkk : n % 40 + 1 = k at hk
  have h3 : copD (.bin .rem) [.int .u8 n, .int .u8 40] = some (.int .u8 ((n % 40 : Nat) : Int)) := by
    have h : ((n : Int)).tmod 40 = ((n % 40 : Nat) : Int) := rfl
    simp only [copD, binD, V.shiftOp, V.cmpI, V.ariI, Bool.false_eq_true, if_false, if_true, h]
    rfl
  have h4 : copD (.conv .i64) [.int .u8 ((n % 40 : Nat) : Int)] = some (.int .i64 ((n % 40 : Nat) : Int)) := by
    show some (D.int .i64 (IntKind.i64.wrap _)) = _
    rw [wrap64 (by omega) (by omega)]
  refine .tree rfl rfl ?_
  refine R.call rfl begun_ok rfl (R.op rfl rfl (R.iteF rfl (R.op rfl h3 (R.op rfl h4 (R.op rfl (addI (r := (k : Int)) (by omega) (by omega) (by omega)) ?_)))))
  simp only [List.cons_append, List.nil_append]
  refine R.bindO (qs := [.lst (sl k)]) (R.loop (ds := [.int .i64 (0 : Nat), pre k 0]) rfl (build_ok hk (k + 1) 0 rfl)) rfl ?_
  simp only [List.cons_append, List.nil_append]
  refine R.op (d := sch k) rfl rfl (R.call rfl (weights_ok hk) rfl ?_)
  simp only [List.cons_append, List.nil_append]
  have hl := look_om (i := 0) hk (by omega) (k + 1) (Nat.le_refl _)
  rw [if_pos (by omega), Nat.sub_zero] at hl
  have hm := look_mp (i := 0) hk (by omega) (k + 1) (Nat.le_refl _)
  rw [if_pos (by omega), Nat.sub_zero] at hm
  refine R.bindO (qs := [.int .i64 (want k)]) ?_ rfl ?_
  · by_cases h : k < 19
    · have hw := want_le hk
      exact R.op rfl (lssT (by omega)) (R.iteT rfl (R.op rfl (addI (r := ((k + 1 : Nat) : Int)) (by omega) (by omega) (by omega)) (R.op rfl (shl_ok h) (R.op rfl (subI (r := want k) (by omega) (by omega) (by have := hw.2 h; omega)) (R.fin rfl)))))
    · have : want k = 1000000 := by simp [want, h]
      rw [this]
      exact R.op rfl (lssF (by omega)) (R.iteF rfl (R.fin rfl))
  · simp only [List.cons_append, List.nil_append]
    refine R.bindO (qs := [.bool true]) ?_ rfl (R.fin rfl)
    refine R.op rfl (mgetI (s := bs 0) hl rfl) (R.op rfl mnI (R.op rfl (eqlT (want_ok hk)) (R.iteT rfl (R.call rfl (has_ok hk) rfl (R.op rfl (mgetI (s := bs 0) hm rfl) (R.op rfl (addI (r := ((k + 1 : Nat) : Int)) (by omega) (by omega) (by omega)) (R.op rfl (eqlT rfl) (R.fin rfl))))))))
end Go.Proofs.Ytjofhegodknmaaa.Dbl
