/- OrderStays: comparing, and the words for rows of numbers. To: OrderStays: the law's function. -/
import Derived.Test.YtjofhegodknmaaaStA
set_option linter.unusedSimpArgs false
set_option linter.unusedVariables false
/-! OrderStays: comparing, and the words for rows of numbers. -/
namespace Go.Proofs.Ytjofhegodknmaaa.St
open Go Go.RowKit
open W
open V (D)
abbrev F : FnT := fnT trees known
/-- a number, as a value -/
def el (a : Int) : D := .agg [.int .i64 3, .int .i64 a, V.txt [], .nil, .nil]
abbrev row (l : List Int) : D := .lst (l.map el)
theorem el_len (a : Int) : (el a).cells.length = 5 := rfl
theorem row_get {l : List Int} {i : Nat} {a : Int} (h : l[i]? = some a) : (l.map el)[i]? = some (el a) := by simp [h]
theorem eltM {l : List Int} {i : Nat} {ii a : Int} (hi : ii = i) (h : l[i]? = some a) : copD (.pop (.elt 5)) [row l, .int .i64 ii] = some (el a) := eltI hi (row_get h) rfl
theorem updM {l : List Int} {i : Nat} {ii a : Int} (hi : ii = i) (h : i < l.length) : copD (.pop (.upd 5 0 true)) [row l, .int .i64 ii, .int .i64 3, .int .i64 a, V.txt [], .nil, .nil] = some (row (l.set i a)) := by
  subst hi
  obtain ⟨b, hb⟩ : ∃ b, l[i]? = some b := ⟨l[i], List.getElem?_eq_getElem h⟩
  have h5 : (el b).cells.length = 5 := rfl
  have hc : (el b).cells = [.int .i64 3, .int .i64 b, V.txt [], .nil, .nil] := rfl
  simp only [copD, freeP, if_true, popD, Int.toNat_natCast, row_get hb, hc]
  simp [D.one, V.txt, Nat.ble, el, List.map_set, bnat]
theorem subI {m n r : Int} (h : r = m - n) (h1 : -9223372036854775808 ≤ r) (h2 : r ≤ 9223372036854775807) : copD (.bin .sub) [.int .i64 m, .int .i64 n] = some (.int .i64 r) := by
  subst h; simp [copD, binD, V.shiftOp, V.cmpI, V.ariI, wrap64 h1 h2]
theorem mulI {m n r : Int} (h : r = m * n) (h1 : -9223372036854775808 ≤ r) (h2 : r ≤ 9223372036854775807) : copD (.bin .mul) [.int .i64 m, .int .i64 n] = some (.int .i64 r) := by
  subst h; simp [copD, binD, V.shiftOp, V.cmpI, V.ariI, wrap64 h1 h2]
theorem gtrT {m n : Int} (h : n < m) : copD (.bin .gtr) [.int .i64 m, .int .i64 n] = some (.bool true) := by simp [copD, binD, V.shiftOp, V.cmpI, h]
theorem gtrF {m n : Int} (h : m ≤ n) : copD (.bin .gtr) [.int .i64 m, .int .i64 n] = some (.bool false) := by simp [copD, binD, V.shiftOp, V.cmpI, h]
/-- a store of a value into a row -/
theorem R_upd {k : T} {env : List D} {n v r j : Nat} {x : V.X} {rs : List D} {l : List Int} {a : Int} {i : Nat} {ii : Int} (hv : env[v]? = some (el a)) (hr : env[r]? = some (row l)) (hj : env[j]? = some (.int .i64 ii)) (hn : env.length = n) (hi : ii = i) (hl : i < l.length)
    (h : R F k (env ++ [.int .i64 3, .int .i64 a, V.txt [], .nil, .nil, row (l.set i a)]) x rs) :
    R F (T.op (.pop (.cell 0 5)) [.v v] <| T.op (.pop (.cell 1 5)) [.v v] <| T.op (.pop (.cell 2 5)) [.v v] <| T.op (.pop (.cell 3 5)) [.v v] <| T.op (.pop (.cell 4 5)) [.v v] <| T.op (.pop (.upd 5 0 true)) [.v r, .v j, .v n, .v (n + 1), .v (n + 2), .v (n + 3), .v (n + 4)] k) env x rs := by
  have get : ∀ (q : List D) (i : Nat) (d : D), env[i]? = some d → (env ++ q)[i]? = some d := fun q i d h => by
    rw [List.getElem?_append_left (List.getElem?_eq_some_iff.1 h).1]; exact h
  have at1 : ∀ (q : List D) (i : Nat) (d : D), env[i]? = some d → atsD (env ++ q) [.v i] = some [d] := fun q i d h => by simp [atsD, atD, get q i d h]
  have nw : ∀ (q : List D) (i m : Nat), m = n + i → (env ++ q)[m]? = q[i]? := fun q i m h => by
    subst h; rw [List.getElem?_append_right (by omega)]; congr 1; omega
  refine R.op (by simpa using at1 [] _ _ hv) rfl (R.op (at1 _ _ _ hv) rfl ?_)
  rw [List.append_assoc]
  refine R.op (at1 _ _ _ hv) rfl ?_
  rw [List.append_assoc]
  refine R.op (at1 _ _ _ hv) rfl ?_
  rw [List.append_assoc]
  refine R.op (at1 _ _ _ hv) rfl ?_
  rw [List.append_assoc]
  refine R.op (ds := [row l, .int .i64 ii, .int .i64 3, .int .i64 a, V.txt [], .nil, .nil]) ?_ (updM hi hl) ?_
  · simp only [atsD, atD, get _ _ _ hr, get _ _ _ hj, nw _ 0 n rfl, nw _ 1 _ rfl, nw _ 2 _ rfl, nw _ 3 _ rfl, nw _ 4 _ rfl]
    rfl
  · rw [List.append_assoc]
    exact h
/-! Comparing. -/
def cv (a b : Int) : Int := if a < b then -1 else if b < a then 1 else 0
theorem nan61 (a : Int) : Cv F 94 [.int .i64 a] [.bool false] := .tree rfl rfl (R.op rfl (neqF rfl) (R.fin rfl))
theorem comp61 (a b : Int) : Cv F 61 [.int .i64 a, .int .i64 b] [.int .i64 (cv a b)] := by
  refine .tree rfl rfl (R.call rfl (nan61 a) rfl (R.call rfl (nan61 b) rfl (R.iteF rfl (R.iteF rfl ?_))))
  unfold cv
  by_cases h : a < b
  · rw [if_pos h]
    exact R.op rfl (lssT h) (R.iteT rfl (R.fin rfl))
  · rw [if_neg h]
    refine R.op rfl (lssF (by omega)) (R.iteF rfl ?_)
    by_cases h' : b < a
    · rw [if_pos h']
      exact R.op rfl (gtrT h') (R.iteT rfl (R.fin rfl))
    · rw [if_neg h']
      exact R.op rfl (gtrF (by omega)) (R.iteF rfl (R.fin rfl))
theorem comp60 : Cv F 60 [.int .i64 3, .int .i64 3] [.int .i64 0] := (run_ok 20).2.2 _ _ _ (by kernel_rfl)
theorem cmp_ok (a b : Int) : Cv F 29 [el a, el b] [.int .i64 (cv a b)] := by
  refine .tree rfl rfl ?_
  iterate 10 refine R.op rfl rfl ?_
  simp only [List.cons_append, List.nil_append]
  refine R.call rfl comp60 rfl (R.op rfl (neqF rfl) (R.iteF rfl ?_))
  simp only [List.cons_append, List.nil_append]
  refine R.bindO (qs := [.bool true]) (R.op rfl (eqlF (by decide)) (R.iteF rfl (R.op rfl (eqlT rfl) (R.iteT rfl (R.fin rfl))))) rfl ?_
  exact R.iteT rfl (R.call rfl (comp61 a b) rfl (R.fin rfl))
theorem cv_lt {a b : Int} (h : a < b) : cv a b = -1 := by simp [cv, h]
theorem cv_eq {a b : Int} : cv a b = 0 ↔ a = b := by
  unfold cv
  split
  · constructor <;> intro h <;> first | omega | (exfalso; omega)
  · split <;> constructor <;> intro h <;> first | omega | (exfalso; omega)
theorem cv_neg {a b : Int} : cv a b < 0 ↔ a < b := by
  unfold cv
  split
  · constructor <;> intro h <;> omega
  · split <;> constructor <;> intro h <;> omega
end Go.Proofs.Ytjofhegodknmaaa.St
/-! OrderStays: parts of a row that change places; a row put in order by insertion. -/
namespace Go.Proofs.Ytjofhegodknmaaa.St
open Go Go.RowKit
open W
open V (D)
def Srt (l : List Int) : Prop := l.Pairwise (· ≤ ·)
theorem sw {P K S : List Int} {x y : Int} {i j : Nat} (hi : i = P.length) (hj : j = P.length + 1 + K.length) :
    (P ++ x :: (K ++ y :: S))[i]? = some x ∧ (P ++ x :: (K ++ y :: S))[j]? = some y ∧ ((P ++ x :: (K ++ y :: S)).set i y)[j]? = some y ∧ ((P ++ x :: (K ++ y :: S)).set i y).set j x = P ++ y :: (K ++ x :: S) ∧
    ((P ++ x :: (K ++ y :: S)).set j x)[i]? = some x ∧ ((P ++ x :: (K ++ y :: S)).set j x).set i y = P ++ y :: (K ++ x :: S) ∧ i < (P ++ x :: (K ++ y :: S)).length ∧ j < (P ++ x :: (K ++ y :: S)).length ∧ i < ((P ++ x :: (K ++ y :: S)).set j x).length ∧ j < ((P ++ x :: (K ++ y :: S)).set i y).length := by
  subst hi hj
  have e : ∀ (P K S : List Int) (x y : Int), P ++ x :: (K ++ y :: S) = (P ++ x :: K) ++ y :: S := by simp
  have g : ∀ (P S : List Int) (x : Int) (i : Nat), i = P.length → (P ++ x :: S)[i]? = some x := by intro P S x i h; subst h; simp
  have s : ∀ (P S : List Int) (x y : Int) (i : Nat), i = P.length → (P ++ x :: S).set i y = P ++ y :: S := by intro P S x y i h; subst h; simp
  have l : ∀ x : Int, P.length + 1 + K.length = (P ++ x :: K).length := by intro x; simp; omega
  refine ⟨g _ _ _ _ rfl, by rw [e]; exact g _ _ _ _ (l x), by rw [s _ _ _ _ _ rfl, e]; exact g _ _ _ _ (l y), by rw [s _ _ _ _ _ rfl, e, s _ _ _ _ _ (l y), ← e], ?_, ?_, by simp, by simp; omega, by simp, by simp; omega⟩
  · rw [e, s _ _ _ _ _ (l x), ← e]; exact g _ _ _ _ rfl
  · rw [e, s _ _ _ _ _ (l x), ← e]; exact s _ _ _ _ _ rfl
theorem Lm {b : T} {env ds ds' rs : List D} {x : V.X} (h1 : L F b env ds' x rs) (h : R F b (env ++ ds) .normal ds') (hn : ds'.length = ds.length) : L F b env ds x rs := .more h hn h1
/-! swapRange -/
def b137 : T := match t137 with | .bind _ (.loop _ b) _ _ => b | _ => default
theorem loop137 {r0 g : D} {a b n : Nat} (hB : a + b + n ≤ 1000000) : ∀ (u : List Int) {P M v S : List Int} {ii : Int} {i : Nat}, ii = i → u.length = v.length → i + u.length = n → P.length = a + i → P.length + u.length + M.length = b + i →
    L F b137 [r0, .int .i64 a, .int .i64 b, .int .i64 n, g] [.int .i64 ii, row (P ++ (u ++ (M ++ (v ++ S))))] (.exit 0) [row (P ++ (v ++ (M ++ (u ++ S))))]
  | [], P, M, v, S, ii, i, h0, h1, h2, h3, h4 => by
    obtain rfl : v = [] := List.eq_nil_of_length_eq_zero (by simpa using h1.symm)
    simp only [List.length_nil] at h2
    exact .out (R.op rfl (lssF (by omega)) (R.iteF rfl (R.fin rfl))) (by simp)
  | x :: u, P, M, y :: v, S, ii, i, h0, h1, h2, h3, h4 => by
    simp only [List.length_cons] at h1 h2 h4
    have ih := loop137 hB u (r0 := r0) (g := g) (a := a) (b := b) (n := n) (P := P ++ [y]) (M := M ++ [x]) (v := v) (S := S) (ii := ii + 1) (i := i + 1) (by omega) (by omega) (by omega) (by simp; omega) (by simp; omega)
    obtain ⟨g1, g2, g3, g4, -, -, g7, g8, -, g10⟩ := sw (P := P) (K := u ++ M) (S := v ++ S) (x := x) (y := y) (i := a + i) (j := b + i) (by omega) (by simp; omega)
    have e0 : P ++ (x :: u ++ (M ++ (y :: v ++ S))) = P ++ x :: (u ++ M ++ y :: (v ++ S)) := by simp
    rw [e0]
    have e1 : P ++ y :: (u ++ M ++ x :: (v ++ S)) = P ++ [y] ++ (u ++ (M ++ [x] ++ (v ++ S))) := by simp
    have e2 : P ++ [y] ++ (v ++ (M ++ [x] ++ (u ++ S))) = P ++ (y :: v ++ (M ++ (x :: u ++ S))) := by simp
    rw [e2, ← e1] at ih
    refine Lm ih ?_ rfl
    refine R.op rfl (lssT (by omega)) (R.iteT rfl (R.op rfl (addI rfl (by omega) (by omega)) (R.op rfl (addI rfl (by omega) (by omega)) (R.op rfl (addI rfl (by omega) (by omega)) ?_))))
    simp only [List.cons_append, List.nil_append]
    refine R.op rfl (eltM (i := b + i) (by omega) g2) (R.op rfl (addI rfl (by omega) (by omega)) (R.op rfl (eltM (i := a + i) (by omega) g1) (R.op rfl (eltM (i := a + i) (by omega) g1) ?_)))
    simp only [List.cons_append, List.nil_append]
    refine R_upd (l := P ++ x :: (u ++ M ++ y :: (v ++ S))) (a := y) (i := a + i) rfl rfl rfl rfl (by omega) g7 ?_
    simp only [List.cons_append, List.nil_append]
    refine R.op rfl (eltM (i := b + i) (by omega) g3) ?_
    simp only [List.cons_append, List.nil_append]
    refine R_upd (l := (P ++ x :: (u ++ M ++ y :: (v ++ S))).set (a + i) y) (a := x) (i := b + i) rfl rfl rfl rfl (by omega) g10 ?_
    simp only [List.cons_append, List.nil_append]
    rw [g4]
    exact R.op rfl (addI rfl (by omega) (by omega)) (R.fin rfl)
theorem swap_ok {g : D} {P u M v S : List Int} {aa bb nn : Int} {a b n : Nat} (hB : a + b + n ≤ 1000000) (ha : aa = a) (hb : bb = b) (hn : nn = n) (h1 : u.length = n) (h2 : v.length = n) (h3 : P.length = a) (h4 : P.length + n + M.length = b) :
    Cv F 137 [row (P ++ (u ++ (M ++ (v ++ S)))), .int .i64 aa, .int .i64 bb, .int .i64 nn, g] [row (P ++ (v ++ (M ++ (u ++ S))))] := by
  subst ha hb hn
  exact .tree rfl rfl (R.bindO (R.loop rfl (loop137 hB u (i := 0) rfl (by omega) (by omega) (by omega) (by omega))) rfl (R.fin rfl))
/-! rotate -/
def b130 : T := match t130 with | .op _ _ (.op _ _ (.bind _ (.loop _ b) _ _)) => b | _ => default
theorem loop130 {r0 g : D} {a m b : Nat} {e5 e6 : D} (hB : a + m + b ≤ 100000) : ∀ (k : Nat) {u v P S : List Int} {ii jj : Int}, u.length + v.length ≤ k → ii = u.length → jj = v.length → 0 < u.length → 0 < v.length → P.length + u.length = m → P.length + u.length + v.length ≤ b →
    ∃ u' v' P' S', u'.length = v'.length ∧ 0 < u'.length ∧ P'.length + u'.length = m ∧ P' ++ (v' ++ (u' ++ S')) = P ++ (v ++ (u ++ S)) ∧ P'.length + u'.length + v'.length ≤ b ∧
      L F b130 [r0, .int .i64 a, .int .i64 m, .int .i64 b, g, e5, e6] [.int .i64 ii, .int .i64 jj, row (P ++ (u ++ (v ++ S)))] (.exit 0) [.int .i64 u'.length, row (P' ++ (u' ++ (v' ++ S')))]
  | 0, u, v, P, S, ii, jj, hk, hi, hj, h1, h2, h3, h4 => by omega
  | k + 1, u, v, P, S, ii, jj, hk, hi, hj, h1, h2, h3, h4 => by
    subst hi hj
    by_cases he : u.length = v.length
    · refine ⟨u, v, P, S, he, h1, h3, rfl, h4, .out (R.op rfl (neqF (by omega)) (R.iteF rfl (R.fin rfl))) (by simp)⟩
    by_cases hg : v.length < u.length
    · obtain ⟨u1, u2, rfl, hl⟩ : ∃ u1 u2, u = u1 ++ u2 ∧ u1.length = v.length := ⟨u.take v.length, u.drop v.length, (List.take_append_drop _ _).symm, by simp; omega⟩
      simp only [List.length_append] at *
      obtain ⟨u', v', P', S', q1, q2, q3, q4, q5, q6⟩ := loop130 (r0 := r0) (g := g) (e5 := e5) (e6 := e6) (a := a) (m := m) (b := b) hB k (u := u2) (v := u1) (P := P ++ v) (S := S) (ii := u2.length) (jj := u1.length) (by omega) rfl rfl (by omega) (by omega) (by simp; omega) (by simp; omega)
      refine ⟨u', v', P', S', q1, q2, q3, by rw [q4]; simp, q5, Lm q6 ?_ rfl⟩
      have hs := swap_ok (g := g) (P := P) (u := u1) (M := u2) (v := v) (S := S) (aa := m - ((u1.length + u2.length : Nat) : Int)) (bb := m) (nn := v.length) (a := P.length) (b := m) (n := v.length) (by omega) (by omega) rfl rfl hl rfl rfl (by omega)
      have e0 : P ++ (u1 ++ u2 ++ (v ++ S)) = P ++ (u1 ++ (u2 ++ (v ++ S))) := by simp
      have e1 : P ++ v ++ (u2 ++ (u1 ++ S)) = P ++ (v ++ (u2 ++ (u1 ++ S))) := by simp
      rw [e0, e1]
      refine R.op rfl (neqT (by omega)) (R.iteT rfl (R.bindO (qs := [.int .i64 u2.length, .int .i64 u1.length, row (P ++ (v ++ (u2 ++ (u1 ++ S))))]) ?_ rfl (R.fin rfl)))
      refine R.op rfl (gtrT (by omega)) (R.iteT rfl (R.op rfl (subI rfl (by omega) (by omega)) (R.call rfl hs rfl ?_)))
      refine R.op rfl (subI (r := (u2.length : Int)) (by omega) (by omega) (by omega)) ?_
      rw [hl]
      exact R.fin rfl
    · obtain ⟨v1, v2, rfl, hl⟩ : ∃ v1 v2, v = v1 ++ v2 ∧ v2.length = u.length := ⟨v.take (v.length - u.length), v.drop (v.length - u.length), (List.take_append_drop _ _).symm, by simp; omega⟩
      simp only [List.length_append] at *
      obtain ⟨u', v', P', S', q1, q2, q3, q4, q5, q6⟩ := loop130 (r0 := r0) (g := g) (e5 := e5) (e6 := e6) (a := a) (m := m) (b := b) hB k (u := v2) (v := v1) (P := P) (S := u ++ S) (ii := v2.length) (jj := v1.length) (by omega) rfl rfl (by omega) (by omega) (by omega) (by omega)
      refine ⟨u', v', P', S', q1, q2, q3, by rw [q4]; simp, q5, Lm q6 ?_ rfl⟩
      have hs := swap_ok (g := g) (P := P) (u := u) (M := v1) (v := v2) (S := S) (aa := m - (u.length : Int)) (bb := m + ((v1.length + v2.length : Nat) : Int) - u.length) (nn := u.length) (a := P.length) (b := m + v1.length) (n := u.length) (by omega) (by omega) (by omega) rfl rfl hl rfl (by omega)
      have e0 : P ++ (u ++ (v1 ++ v2 ++ S)) = P ++ (u ++ (v1 ++ (v2 ++ S))) := by simp
      rw [e0]
      refine R.op rfl (neqT (by omega)) (R.iteT rfl (R.bindO (qs := [.int .i64 v2.length, .int .i64 v1.length, row (P ++ (v2 ++ (v1 ++ (u ++ S))))]) ?_ rfl (R.fin rfl)))
      refine R.op rfl (gtrF (by omega)) (R.iteF rfl (R.op rfl (subI rfl (by omega) (by omega)) (R.op rfl (addI rfl (by omega) (by omega)) (R.op rfl (subI rfl (by omega) (by omega)) (R.call rfl hs rfl ?_)))))
      refine R.op rfl (subI (r := (v1.length : Int)) (by omega) (by omega) (by omega)) ?_
      rw [hl]
      exact R.fin rfl
theorem rot_ok {g : D} {P u v S : List Int} {aa mm bb : Int} {a m b : Nat} (hB : a + m + b ≤ 100000) (ha : aa = a) (hm : mm = m) (hb : bb = b) (h1 : P.length = a) (h2 : a + u.length = m) (h3 : m + v.length = b) (h4 : 0 < u.length) (h5 : 0 < v.length) :
    Cv F 130 [row (P ++ (u ++ (v ++ S))), .int .i64 aa, .int .i64 mm, .int .i64 bb, g] [row (P ++ (v ++ (u ++ S)))] := by
  subst ha hm hb
  refine .tree rfl rfl (R.op rfl (subI rfl (by omega) (by omega)) (R.op rfl (subI rfl (by omega) (by omega)) ?_))
  simp only [List.cons_append, List.nil_append]
  obtain ⟨u', v', P', S', q1, q2, q3, q4, q5, q6⟩ := loop130 (r0 := row (P ++ (u ++ (v ++ S)))) (g := g) (e5 := .int .i64 (m - a)) (e6 := .int .i64 (b - m)) (a := a) (m := m) (b := b) hB _ (u := u) (v := v) (P := P) (S := S) (ii := m - a) (jj := b - m) (Nat.le_refl _) (by omega) (by omega) h4 h5 (by omega) (by omega)
  refine R.bindO (R.loop rfl q6) rfl ?_
  simp only [List.cons_append, List.nil_append]
  have hs := swap_ok (g := g) (P := P') (u := u') (M := []) (v := v') (S := S') (aa := m - (u'.length : Int)) (bb := m) (nn := u'.length) (a := P'.length) (b := m) (n := u'.length) (by omega) (by omega) rfl rfl rfl q1.symm rfl (by simp; omega)
  simp only [List.nil_append] at hs
  rw [q4] at hs
  exact R.op rfl (subI rfl (by omega) (by omega)) (R.call rfl hs rfl (R.fin rfl))
end Go.Proofs.Ytjofhegodknmaaa.St
/-! OrderStays: a row put in order by insertion. -/
namespace Go.Proofs.Ytjofhegodknmaaa.St
open Go Go.RowKit
open W
open V (D)
abbrev cf : D := .fn 29 []
theorem srt_app {a b : List Int} : Srt (a ++ b) ↔ Srt a ∧ Srt b ∧ ∀ x ∈ a, ∀ y ∈ b, x ≤ y := List.pairwise_append
def b120 : T := match t120 with | .op _ _ (.bind _ (.loop _ b) _ _) => b | _ => default
def c120 : T := match b120 with | .op _ _ (.ite _ (.bind _ (.loop _ b) _ _) _) => b | _ => default
theorem inner120 {r0 r1 e4 : D} {a b i : Nat} {P S : List Int} {w : Int} (hP : P.length = a) (hB : a + b + i ≤ 1000000) : ∀ (k : Nat) {q r : List Int} {jj : Int}, q.length = k → jj = (a + q.length : Nat) → jj ≤ 1000000 → Srt (q ++ r) → (∀ c ∈ r, w < c) →
    ∃ z, z.Perm (q ++ w :: r) ∧ Srt z ∧ L F c120 [r0, .int .i64 a, .int .i64 b, cf, e4, .int .i64 i, r1, .bool true] [.int .i64 jj, row (P ++ (q ++ w :: (r ++ S)))] (.exit 2) [row (P ++ (z ++ S))]
  | 0, q, r, jj, hk, hj, hb, hs, hr => by
    obtain rfl := List.eq_nil_of_length_eq_zero hk
    refine ⟨w :: r, .refl _, ?_, ?_⟩
    · exact List.pairwise_cons.2 ⟨fun c hc => Int.le_of_lt (hr c hc), (show Srt r by simpa using hs)⟩
    · exact .out (R.op rfl (gtrF (by simp at hj; omega)) (R.iteF rfl (R.fin rfl))) (by simp)
  | k + 1, q, r, jj, hk, hj, hb, hs, hr => by
    obtain ⟨q, t, rfl⟩ : ∃ q' t, q = q' ++ [t] := ⟨q.dropLast, q.getLast (by intro h; simp [h] at hk), (List.dropLast_concat_getLast _).symm⟩
    simp only [List.length_append, List.length_cons, List.length_nil] at hk hj
    obtain ⟨g1, g2, g3, g4, g5, g6, g7, g8, g9, g10⟩ := sw (P := P ++ q) (K := []) (S := r ++ S) (x := t) (y := w) (i := a + q.length) (j := a + q.length + 1) (by simp; omega) (by simp; omega)
    simp only [List.nil_append] at g1 g2 g3 g4 g5 g6 g7 g8 g9 g10
    have e0 : P ++ (q ++ [t] ++ w :: (r ++ S)) = P ++ q ++ t :: w :: (r ++ S) := by simp
    rw [e0]
    by_cases h : w < t
    · obtain ⟨z, z1, z2, z3⟩ := inner120 (r0 := r0) (r1 := r1) (e4 := e4) (a := a) (b := b) (i := i) (P := P) (S := S) (w := w) hP hB k (q := q) (r := t :: r) (jj := jj - 1) (by omega) (by omega) (by omega) (by simpa using hs) (by
        intro c hc
        rcases List.mem_cons.1 hc with rfl | hc
        · exact h
        · exact hr c hc)
      refine ⟨z, z1.trans ?_, z2, ?_⟩
      · simp only [List.append_assoc, List.singleton_append, List.cons_append, List.nil_append]
        exact List.Perm.append_left _ (List.Perm.swap _ _ _)
      · have e1 : P ++ (q ++ w :: (t :: r ++ S)) = P ++ q ++ w :: t :: (r ++ S) := by simp
        rw [e1, ← g6] at z3
        refine Lm z3 ?_ rfl
        refine R.op rfl (gtrT (by omega)) (R.iteT rfl (R.op rfl (eltM (i := a + q.length + 1) (by omega) g2) (R.op rfl (subI rfl (by omega) (by omega)) (R.op rfl (eltM (i := a + q.length) (by omega) g1) ?_))))
        simp only [List.cons_append, List.nil_append]
        refine R.callv rfl rfl rfl (cmp_ok w t) rfl (R.op rfl (lssT (cv_neg.2 h)) (R.iteT rfl (R.op rfl (subI rfl (by omega) (by omega)) (R.op rfl (subI rfl (by omega) (by omega)) (R.op rfl (eltM (i := a + q.length) (by omega) g1) ?_)))))
        simp only [List.cons_append, List.nil_append]
        refine R_upd (l := P ++ q ++ t :: w :: (r ++ S)) (a := t) (i := a + q.length + 1) rfl rfl rfl rfl (by omega) g8 ?_
        simp only [List.cons_append, List.nil_append]
        refine R.op rfl (eltM (i := a + q.length) (by omega) g5) ?_
        simp only [List.cons_append, List.nil_append]
        refine R_upd (l := (P ++ q ++ t :: w :: (r ++ S)).set (a + q.length + 1) t) (a := w) (i := a + q.length) rfl rfl rfl rfl (by omega) g9 ?_
        simp only [List.cons_append, List.nil_append]
        exact R.op rfl (subI rfl (by omega) (by omega)) (R.fin rfl)
    · refine ⟨q ++ [t] ++ w :: r, .refl _, ?_, ?_⟩
      · obtain ⟨s1, s2, s3⟩ := srt_app.1 hs
        obtain ⟨s4, s5, s6⟩ := srt_app.1 s1
        refine srt_app.2 ⟨s1, List.pairwise_cons.2 ⟨fun c hc => Int.le_of_lt (hr c hc), s2⟩, fun x hx y hy => ?_⟩
        rcases List.mem_cons.1 hy with rfl | hy
        · rcases List.mem_append.1 hx with hx | hx
          · have := s6 x hx t (by simp); omega
          · simp at hx; omega
        · exact s3 x hx y hy
      · have e1 : P ++ (q ++ [t] ++ w :: r ++ S) = P ++ q ++ t :: w :: (r ++ S) := by simp
        rw [e1]
        refine .out ?_ (by simp)
        refine R.op rfl (gtrT (by omega)) (R.iteT rfl (R.op rfl (eltM (i := a + q.length + 1) (by omega) g2) (R.op rfl (subI rfl (by omega) (by omega)) (R.op rfl (eltM (i := a + q.length) (by omega) g1) ?_))))
        simp only [List.cons_append, List.nil_append]
        exact R.callv rfl rfl rfl (cmp_ok w t) rfl (R.op rfl (lssF (by have := mt cv_neg.1 h; omega)) (R.iteF rfl (R.fin rfl)))
theorem outer120 {r0 : D} {a b : Nat} {P S : List Int} {e4 : D} (hP : P.length = a) (hB : a + b ≤ 100000) : ∀ (y x : List Int) {ii : Int}, 0 < x.length ∨ y = [] → Srt x → ii = (a + x.length : Nat) ∨ y = [] ∧ (b : Int) ≤ ii → b = a + x.length + y.length →
    ∃ z, z.Perm (x ++ y) ∧ Srt z ∧ L F b120 [r0, .int .i64 a, .int .i64 b, cf, e4] [.int .i64 ii, row (P ++ (x ++ (y ++ S)))] (.exit 0) [row (P ++ (z ++ S))]
  | [], x, ii, h0, hs, hi, hb => by
    refine ⟨x, by simp, hs, .out (R.op rfl (lssF (by simp at hb; omega)) (R.iteF rfl (R.fin rfl))) (by simp)⟩
  | w :: y, x, ii, h0, hs, hi, hb => by
    simp only [List.length_cons] at hb
    have hi : ii = (a + x.length : Nat) := by rcases hi with hi | ⟨hi, _⟩ <;> first | exact hi | simp at hi
    obtain ⟨z1, p1, s1, l1⟩ := inner120 (r0 := r0) (r1 := row (P ++ (x ++ (w :: y ++ S)))) (e4 := e4) (a := a) (b := b) (i := a + x.length) (P := P) (S := y ++ S) (w := w) hP (by omega) _ (q := x) (r := []) (jj := ii) rfl hi (by omega) (by simpa using hs) (by simp)
    have hl : z1.length = x.length + 1 := by simpa using p1.length_eq
    obtain ⟨z, p2, s2, l2⟩ := outer120 (r0 := r0) (a := a) (b := b) (P := P) (S := S) (e4 := e4) hP hB y z1 (ii := ii + 1) (.inl (by omega)) s1 (.inl (by omega)) (by omega)
    refine ⟨z, p2.trans ?_, s2, ?_⟩
    · have := List.Perm.append_right y p1
      simpa using this
    · refine Lm l2 ?_ rfl
      subst hi
      refine R.op rfl (lssT (by omega)) (R.iteT rfl (R.bindO (qs := [row (P ++ (z1 ++ (y ++ S)))]) (R.loop rfl l1) rfl ?_))
      exact R.op rfl (addI rfl (by omega) (by omega)) (R.fin rfl)
/-- a part of a row is put in order -/
theorem ins_ok {P x S : List Int} {a b : Nat} {aa bb : Int} (hP : P.length = a) (hb : b = a + x.length) (hB : b ≤ 1000) (h1 : aa = a) (h2 : bb = b) : ∃ z, z.Perm x ∧ Srt z ∧ Cv F 120 [row (P ++ (x ++ S)), .int .i64 aa, .int .i64 bb, cf] [row (P ++ (z ++ S))] := by
  subst h1 h2
  cases x with
  | nil =>
    refine ⟨[], .refl _, List.Pairwise.nil, ?_⟩
    obtain ⟨z, p, s, l⟩ := outer120 (r0 := row (P ++ ([] ++ S))) (a := a) (b := b) (P := P) (S := S) (e4 := .int .i64 (a + 1)) hP (by omega) [] [] (ii := a + 1) (.inr rfl) List.Pairwise.nil (.inr ⟨rfl, by simp at hb; omega⟩) (by simpa using hb)
    obtain rfl : z = [] := by simpa using p
    exact .tree rfl rfl (R.op rfl (addI rfl (by omega) (by omega)) (R.bindO (R.loop rfl l) rfl (R.fin rfl)))
  | cons w y =>
    simp only [List.length_cons] at hb
    obtain ⟨z, p, s, l⟩ := outer120 (r0 := row (P ++ (w :: y ++ S))) (a := a) (b := b) (P := P) (S := S) (e4 := .int .i64 (a + 1)) hP (by omega) y [w] (ii := a + 1) (.inl (by simp)) (List.pairwise_singleton _ _) (.inl (by simp)) (by simp; omega)
    exact ⟨z, by simpa using p, s, .tree rfl rfl (R.op rfl (addI rfl (by omega) (by omega)) (R.bindO (R.loop rfl l) rfl (R.fin rfl)))⟩
end Go.Proofs.Ytjofhegodknmaaa.St
/-! OrderStays: searching by halves; a value that moves. -/
namespace Go.Proofs.Ytjofhegodknmaaa.St
open Go Go.RowKit
open W
open V (D)
/-- the middle of two places -/
theorem R_half {k : T} {env : List D} {n p q : Nat} {x : V.X} {rs : List D} {i j : Nat} {ii jj : Int} (hp : env[p]? = some (.int .i64 ii)) (hq : env[q]? = some (.int .i64 jj)) (hn : env.length = n) (hi : ii = i) (hj : jj = j) (hB : i + j ≤ 1000000)
    (h : R F k (env ++ [.int .i64 (i + j : Nat), .int .u64 (i + j : Nat), .int .u64 ((i + j) / 2 : Nat), .int .i64 ((i + j) / 2 : Nat)]) x rs) :
    R F (T.op (.bin .add) [.v p, .v q] <| T.op (.conv .u64) [.v n] <| T.op (.bin .shr) [.v (n + 1), .c (.int .u64 1)] <| T.op (.conv .i64) [.v (n + 2)] k) env x rs := by
  subst hi hj
  have nw : ∀ (q : List D) (i m : Nat), m = n + i → (env ++ q)[m]? = q[i]? := fun q i m h => by
    subst h; rw [List.getElem?_append_right (by omega)]; congr 1; omega
  refine R.op (ds := [.int .i64 i, .int .i64 j]) (by simp [atsD, atD, hp, hq]) (addI (r := ((i + j : Nat) : Int)) (by omega) (by omega) (by omega)) ?_
  refine R.op (ds := [.int .i64 (i + j : Nat)]) (d := .int .u64 (i + j : Nat)) (by simp only [atsD, atD, nw _ 0 n rfl]; rfl) ?_ ?_
  · simp only [copD, Option.some.injEq, D.int.injEq, true_and]
    rw [V.wr_u64]; omega
  rw [List.append_assoc]
  refine R.op (ds := [.int .u64 (i + j : Nat), .int .u64 1]) (d := .int .u64 ((i + j) / 2 : Nat)) (by simp only [atsD, atD, nw _ 1 _ rfl]; rfl) ?_ ?_
  · have e : ((i + j : Nat) : Int).fdiv (2 ^ min (1 : Int).toNat IntKind.u64.bits) = (((i + j) / 2 : Nat) : Int) := by
      show ((i + j : Nat) : Int).fdiv 2 = _
      rw [Int.fdiv_eq_ediv_of_nonneg _ (by decide)]; omega
    simp only [copD, binD, V.shiftOp, if_true, V.bitI, e]
    rfl
  rw [List.append_assoc]
  refine R.op (ds := [.int .u64 ((i + j) / 2 : Nat)]) (d := .int .i64 ((i + j) / 2 : Nat)) (by simp only [atsD, atD, nw _ 2 _ rfl]; rfl) ?_ ?_
  · simp only [copD, Option.some.injEq, D.int.injEq, true_and]
    exact wrap64 (by omega) (by omega)
  rw [List.append_assoc]
  exact h
/-- searching by halves -/
theorem search {B : T} {env : List D} {p : Nat → Prop} [DecidablePred p] {lo hi : Nat} {ex : V.X} (hmono : ∀ c c', lo ≤ c' → c' ≤ c → c < hi → p c → p c')
    (hbody : ∀ i j : Nat, lo ≤ i → i < j → j ≤ hi → R F B (env ++ [.int .i64 i, .int .i64 j]) .normal (if p ((i + j) / 2) then [.int .i64 ((i + j) / 2 + 1 : Nat), .int .i64 j] else [.int .i64 i, .int .i64 ((i + j) / 2 : Nat)]))
    (hout : ∀ i : Nat, R F B (env ++ [.int .i64 i, .int .i64 i]) ex [.int .i64 i]) (hex : ex ≠ .normal) :
    ∀ (k i j : Nat), j - i ≤ k → lo ≤ i → i ≤ j → j ≤ hi → (∀ c, lo ≤ c → c < i → p c) → (∀ c, j ≤ c → c < hi → ¬ p c) →
      ∃ r, lo ≤ r ∧ r ≤ hi ∧ (∀ c, lo ≤ c → c < r → p c) ∧ (∀ c, r ≤ c → c < hi → ¬ p c) ∧ L F B env [.int .i64 i, .int .i64 j] ex [.int .i64 r] := by
  intro k
  induction k with
  | zero =>
    intro i j hk h1 h2 h3 h4 h5
    obtain rfl : i = j := by omega
    exact ⟨i, h1, h3, h4, h5, .out (hout i) hex⟩
  | succ k ih =>
    intro i j hk h1 h2 h3 h4 h5
    by_cases he : i = j
    · subst he
      exact ⟨i, h1, h3, h4, h5, .out (hout i) hex⟩
    · have hb := hbody i j h1 (by omega) h3
      by_cases hp : p ((i + j) / 2)
      · rw [if_pos hp] at hb
        obtain ⟨r, r1, r2, r3, r4, r5⟩ := ih ((i + j) / 2 + 1) j (by omega) (by omega) (by omega) h3 (fun c c1 c2 => hmono _ _ c1 (by omega) (by omega) hp) h5
        exact ⟨r, r1, r2, r3, r4, Lm r5 hb rfl⟩
      · rw [if_neg hp] at hb
        obtain ⟨r, r1, r2, r3, r4, r5⟩ := ih i ((i + j) / 2) (by omega) h1 (by omega) (by omega) h4 (fun c c1 c2 hc => hp (hmono _ _ (by omega) c1 c2 hc))
        exact ⟨r, r1, r2, r3, r4, Lm r5 hb rfl⟩
/-! symMerge: its loops. -/
def s0 : T := match t121 with | .op _ _ (.op _ _ (.ite _ (.bind _ (.loop _ b) _ _) _)) => b | _ => default
def s2 : T := match t121 with | .op _ _ (.op _ _ (.ite _ (.bind _ _ _ (.bind _ (.loop _ b) _ _)) _)) => b | _ => default
def s4 : T := match t121 with | .op _ _ (.op _ _ (.ite _ _ (.op _ _ (.op _ _ (.ite _ (.bind _ (.loop _ b) _ _) _))))) => b | _ => default
def s6 : T := match t121 with | .op _ _ (.op _ _ (.ite _ _ (.op _ _ (.op _ _ (.ite _ (.bind _ _ _ (.bind _ (.loop _ b) _ _)) _))))) => b | _ => default
/-- the first value goes on, past others -/
theorem loop2 {r0 e5 e6 : D} {a m b i : Nat} (hB : i ≤ 1000000) : ∀ (u : List Int) {P S : List Int} {w : Int} {kk : Int}, kk = P.length → i = P.length + 1 + u.length →
    L F s2 [r0, .int .i64 a, .int .i64 m, .int .i64 b, cf, e5, e6, .int .i64 i] [.int .i64 kk, row (P ++ w :: (u ++ S))] (.exit 2) [row (P ++ (u ++ w :: S))]
  | [], P, S, w, kk, hk, hi => by
    refine .out (R.op rfl (subI rfl (by omega) (by omega)) (R.op rfl (lssF (by simp at hi; omega)) (R.iteF rfl (R.fin rfl)))) (by simp)
  | c :: u, P, S, w, kk, hk, hi => by
    simp only [List.length_cons] at hi
    have ih := loop2 (r0 := r0) (e5 := e5) (e6 := e6) (a := a) (m := m) (b := b) (i := i) hB u (P := P ++ [c]) (S := S) (w := w) (kk := kk + 1) (by simp; omega) (by simp; omega)
    obtain ⟨g1, g2, g3, g4, g5, g6, g7, g8, g9, g10⟩ := sw (P := P) (K := []) (S := u ++ S) (x := w) (y := c) (i := P.length) (j := P.length + 1) rfl rfl
    simp only [List.nil_append] at g1 g2 g3 g4 g5 g6 g7 g8 g9 g10
    have e1 : P ++ [c] ++ w :: (u ++ S) = P ++ c :: w :: (u ++ S) := by simp
    have e2 : P ++ [c] ++ (u ++ w :: S) = P ++ (c :: u ++ w :: S) := by simp
    rw [e1, e2, ← g4] at ih
    refine Lm ih ?_ rfl
    refine R.op rfl (subI rfl (by omega) (by omega)) (R.op rfl (lssT (by omega)) (R.iteT rfl (R.op rfl (addI rfl (by omega) (by omega)) (R.op rfl (addI rfl (by omega) (by omega)) ?_))))
    simp only [List.cons_append, List.nil_append]
    refine R.op rfl (eltM (i := P.length + 1) (by omega) g2) (R.op rfl (eltM (i := P.length) (by omega) g1) ?_)
    simp only [List.cons_append, List.nil_append]
    refine R_upd (l := P ++ w :: c :: (u ++ S)) (a := c) (i := P.length) rfl rfl rfl rfl (by omega) g7 ?_
    simp only [List.cons_append, List.nil_append]
    refine R.op rfl (eltM (i := P.length + 1) (by omega) g3) ?_
    simp only [List.cons_append, List.nil_append]
    refine R_upd (l := (P ++ w :: c :: (u ++ S)).set P.length c) (a := w) (i := P.length + 1) rfl rfl rfl rfl (by omega) g10 ?_
    simp only [List.cons_append, List.nil_append]
    exact R.op rfl (addI rfl (by omega) (by omega)) (R.fin rfl)
/-- the last value goes back, past others -/
theorem loop6 {r0 e5 e6 e7 e8 : D} {a m b i : Nat} {P : List Int} {w : Int} (hi : i = P.length) : ∀ (n : Nat) {u S : List Int} {kk : Int}, u.length = n → kk = (i + u.length : Nat) → kk ≤ 1000000 →
    L F s6 [r0, .int .i64 a, .int .i64 m, .int .i64 b, cf, e5, e6, e7, e8, .int .i64 i] [.int .i64 kk, row (P ++ (u ++ w :: S))] (.exit 6) [row (P ++ w :: (u ++ S))]
  | 0, u, S, kk, hn, hk, hB => by
    obtain rfl := List.eq_nil_of_length_eq_zero hn
    refine .out (R.op rfl (gtrF (by simp at hk; omega)) (R.iteF rfl (R.fin rfl))) (by simp)
  | n + 1, u, S, kk, hn, hk, hB => by
    obtain ⟨u, t, rfl⟩ : ∃ q' t, u = q' ++ [t] := ⟨u.dropLast, u.getLast (by intro h; simp [h] at hn), (List.dropLast_concat_getLast _).symm⟩
    simp only [List.length_append, List.length_cons, List.length_nil] at hn hk
    have ih := loop6 (r0 := r0) (e5 := e5) (e6 := e6) (e7 := e7) (e8 := e8) (a := a) (m := m) (b := b) (i := i) (P := P) (w := w) hi n (u := u) (S := t :: S) (kk := kk - 1) (by omega) (by omega) (by omega)
    obtain ⟨g1, g2, g3, g4, g5, g6, g7, g8, g9, g10⟩ := sw (P := P ++ u) (K := []) (S := S) (x := t) (y := w) (i := i + u.length) (j := i + u.length + 1) (by simp; omega) (by simp; omega)
    simp only [List.nil_append] at g1 g2 g3 g4 g5 g6 g7 g8 g9 g10
    have e0 : P ++ (u ++ [t] ++ w :: S) = P ++ u ++ t :: w :: S := by simp
    have e1 : P ++ (u ++ w :: t :: S) = P ++ u ++ w :: t :: S := by simp
    have e2 : P ++ w :: (u ++ [t] ++ S) = P ++ w :: (u ++ t :: S) := by simp
    rw [e1, ← g6] at ih
    rw [e0, e2]
    refine Lm ih ?_ rfl
    refine R.op rfl (gtrT (by omega)) (R.iteT rfl (R.op rfl (subI rfl (by omega) (by omega)) (R.op rfl (subI rfl (by omega) (by omega)) ?_)))
    simp only [List.cons_append, List.nil_append]
    refine R.op rfl (eltM (i := i + u.length) (by omega) g1) (R.op rfl (eltM (i := i + u.length + 1) (by omega) g2) ?_)
    simp only [List.cons_append, List.nil_append]
    refine R_upd (l := P ++ u ++ t :: w :: S) (a := t) (i := i + u.length + 1) rfl rfl rfl rfl (by omega) g8 ?_
    simp only [List.cons_append, List.nil_append]
    refine R.op rfl (eltM (i := i + u.length) (by omega) g5) ?_
    simp only [List.cons_append, List.nil_append]
    refine R_upd (l := (P ++ u ++ t :: w :: S).set (i + u.length + 1) t) (a := w) (i := i + u.length) rfl rfl rfl rfl (by omega) g9 ?_
    simp only [List.cons_append, List.nil_append]
    exact R.op rfl (subI rfl (by omega) (by omega)) (R.fin rfl)
end Go.Proofs.Ytjofhegodknmaaa.St
/-! OrderStays: two parts of a row in order become one. -/
namespace Go.Proofs.Ytjofhegodknmaaa.St
open Go Go.RowKit
open W
open V (D)
def gt (l : List Int) (t : Nat) : Int := l.getD t 0
theorem gt_get {l : List Int} {t : Nat} (h : t < l.length) : l[t]? = some (gt l t) := by simp [gt, List.getD, List.getElem?_eq_getElem h]
theorem gt_seg {P x R : List Int} {t : Nat} (h : t < x.length) : gt (P ++ (x ++ R)) (P.length + t) = gt x t := by
  unfold gt
  simp only [List.getD]
  rw [List.getElem?_append_right (by omega), List.getElem?_append_left (by omega)]
  congr 2; omega
theorem srt_get {y : List Int} (h : Srt y) {s t : Nat} (hs : s ≤ t) (ht : t < y.length) : gt y s ≤ gt y t := by
  by_cases e : s = t
  · subst e; omega
  · have := (List.pairwise_iff_getElem.1 h) s t (by omega) ht (by omega)
    simpa [gt, List.getD, List.getElem?_eq_getElem ht, List.getElem?_eq_getElem (show s < y.length by omega)] using this
theorem mem_take' {y : List Int} {k : Nat} {c : Int} (h : c ∈ y.take k) : ∃ t, t < k ∧ t < y.length ∧ gt y t = c := by
  obtain ⟨t, ht, e⟩ := List.mem_iff_getElem.1 h
  simp only [List.length_take] at ht
  refine ⟨t, by omega, by omega, ?_⟩
  simp only [List.getElem_take] at e
  simp [gt, List.getD, List.getElem?_eq_getElem (show t < y.length by omega), e]
theorem mem_drop' {y : List Int} {k : Nat} {c : Int} (h : c ∈ y.drop k) : ∃ t, k ≤ t ∧ t < y.length ∧ gt y t = c := by
  obtain ⟨t, ht, e⟩ := List.mem_iff_getElem.1 h
  simp only [List.length_drop] at ht
  refine ⟨k + t, by omega, by omega, ?_⟩
  simp only [List.getElem_drop] at e
  simp [gt, List.getD, List.getElem?_eq_getElem (show k + t < y.length by omega), e]
theorem srt_ins {y1 y2 : List Int} {w : Int} (h : Srt (y1 ++ y2)) (h1 : ∀ c ∈ y1, c ≤ w) (h2 : ∀ c ∈ y2, w ≤ c) : Srt (y1 ++ w :: y2) := by
  obtain ⟨s1, s2, s3⟩ := srt_app.1 h
  refine srt_app.2 ⟨s1, List.pairwise_cons.2 ⟨h2, s2⟩, fun x hx y hy => ?_⟩
  rcases List.mem_cons.1 hy with rfl | hy
  · exact h1 x hx
  · exact s3 x hx y hy
theorem perm_mid {y : List Int} {w : Int} {k : Nat} : (y.take k ++ w :: y.drop k).Perm (w :: y) := by
  have := List.perm_middle (a := w) (l₁ := y.take k) (l₂ := y.drop k)
  rwa [List.take_append_drop] at this
/-- one value ahead -/
theorem one_l {P y S : List Int} {w : Int} {a m b : Nat} (hP : P.length = a) (hm : m = a + 1) (hb : b = m + y.length) (hB : b ≤ 1000) (hs : Srt y) :
    ∃ z, z.Perm (w :: y) ∧ Srt z ∧ Cv F 121 [row (P ++ (w :: (y ++ S))), .int .i64 a, .int .i64 m, .int .i64 b, cf] [row (P ++ (z ++ S))] := by
  have hg : ∀ t, m ≤ t → t < b → gt (P ++ (w :: (y ++ S))) t = gt y (t - m) := fun t h1 h2 => by
    have := gt_seg (P := P ++ [w]) (x := y) (R := S) (t := t - m) (by omega)
    have e : P ++ [w] ++ (y ++ S) = P ++ (w :: (y ++ S)) := by simp
    rw [e] at this
    rw [← this]; congr 1; simp; omega
  have hlen : (P ++ (w :: (y ++ S))).length ≥ b := by simp; omega
  have hw : (P ++ (w :: (y ++ S)))[a]? = some w := by subst hP; simp
  generalize hl : P ++ (w :: (y ++ S)) = l at *
  obtain ⟨r, r1, r2, r3, r4, r5⟩ := search (B := s0) (env := [row l, .int .i64 a, .int .i64 m, .int .i64 b, cf, .int .i64 (m - a), .bool true]) (p := fun c => gt l c < w) (lo := m) (hi := b) (ex := .exit 0)
    (fun c c' h1 h2 h3 h4 => by
      rw [hg c' h1 (by omega)]; rw [hg c (by omega) h3] at h4
      have := srt_get hs (s := c' - m) (t := c - m) (by omega) (by omega)
      omega)
    (fun i j h1 h2 h3 => by
      refine R.op rfl (lssT (by omega)) (R.iteT rfl ?_)
      simp only [List.cons_append, List.nil_append]
      have hc := gt_get (l := l) (t := (i + j) / 2) (by omega)
      by_cases hp : gt l ((i + j) / 2) < w
      · rw [if_pos hp]
        refine R.bindO (qs := [.int .i64 ((i + j) / 2 + 1 : Nat), .int .i64 j]) ?_ rfl (R.fin rfl)
        refine R_half (i := i) (j := j) rfl rfl rfl rfl rfl (by omega) ?_
        simp only [List.cons_append, List.nil_append]
        refine R.op rfl (eltM (i := (i + j) / 2) rfl hc) (R.op rfl (eltM (i := a) rfl hw) (R.callv rfl rfl rfl (cmp_ok _ _) rfl (R.op rfl (lssT (cv_neg.2 hp)) (R.iteT rfl ?_))))
        exact R.op rfl (addI (r := (((i + j) / 2 + 1 : Nat) : Int)) (by omega) (by omega) (by omega)) (R.fin rfl)
      · rw [if_neg hp]
        refine R.bindO (qs := [.int .i64 i, .int .i64 ((i + j) / 2 : Nat)]) ?_ rfl (R.fin rfl)
        refine R_half (i := i) (j := j) rfl rfl rfl rfl rfl (by omega) ?_
        simp only [List.cons_append, List.nil_append]
        exact R.op rfl (eltM (i := (i + j) / 2) rfl hc) (R.op rfl (eltM (i := a) rfl hw) (R.callv rfl rfl rfl (cmp_ok _ _) rfl (R.op rfl (lssF (by have := mt cv_neg.1 hp; omega)) (R.iteF rfl (R.fin rfl))))))
    (fun i => R.op rfl (lssF (Int.le_refl _)) (R.iteF rfl (R.fin rfl))) (by simp) _ m b (Nat.le_refl _) (Nat.le_refl _) (by omega) (Nat.le_refl _) (fun c h1 h2 => by omega) (fun c h1 h2 => by omega)
  refine ⟨y.take (r - m) ++ w :: y.drop (r - m), perm_mid, ?_, ?_⟩
  · refine srt_ins (by rw [List.take_append_drop]; exact hs) (fun c hc => ?_) fun c hc => ?_
    · obtain ⟨t, t1, t2, rfl⟩ := mem_take' hc
      have := r3 (m + t) (by omega) (by omega)
      rw [hg _ (by omega) (by omega), Nat.add_sub_cancel_left] at this
      omega
    · obtain ⟨t, t1, t2, rfl⟩ := mem_drop' hc
      have := r4 (m + t) (by omega) (by omega)
      rw [hg _ (by omega) (by omega), Nat.add_sub_cancel_left] at this
      omega
  · have l2 := loop2 (r0 := row l) (e5 := .int .i64 (m - a)) (e6 := .bool true) (a := a) (m := m) (b := b) (i := r) (by omega) (y.take (r - m)) (P := P) (S := y.drop (r - m) ++ S) (w := w) (kk := a) (by omega) (by simp; omega)
    have e1 : P ++ w :: (y.take (r - m) ++ (y.drop (r - m) ++ S)) = l := by rw [← List.append_assoc (y.take _), List.take_append_drop]; exact hl
    have e2 : P ++ (y.take (r - m) ++ w :: (y.drop (r - m) ++ S)) = P ++ (y.take (r - m) ++ w :: y.drop (r - m) ++ S) := by simp
    rw [e1, e2] at l2
    refine .tree rfl rfl (R.op rfl (subI rfl (by omega) (by omega)) (R.op rfl (eqlT (by omega)) (R.iteT rfl ?_)))
    simp only [List.cons_append, List.nil_append]
    exact R.bindO (R.loop rfl r5) rfl (R.bindO (R.loop rfl l2) rfl (R.fin rfl))
/-- one value behind -/
theorem one_r {P x S : List Int} {w : Int} {a m b : Nat} (hP : P.length = a) (hm : m = a + x.length) (hx : 2 ≤ x.length) (hb : b = m + 1) (hB : b ≤ 1000) (hs : Srt x) :
    ∃ z, z.Perm (w :: x) ∧ Srt z ∧ Cv F 121 [row (P ++ (x ++ (w :: S))), .int .i64 a, .int .i64 m, .int .i64 b, cf] [row (P ++ (z ++ S))] := by
  have hg : ∀ t, a ≤ t → t < m → gt (P ++ (x ++ (w :: S))) t = gt x (t - a) := fun t h1 h2 => by
    have := gt_seg (P := P) (x := x) (R := w :: S) (t := t - a) (by omega)
    rw [← this]; congr 1; omega
  have hlen : (P ++ (x ++ (w :: S))).length ≥ b := by simp; omega
  have hw : (P ++ (x ++ (w :: S)))[m]? = some w := by
    have e : P ++ (x ++ (w :: S)) = (P ++ x) ++ w :: S := by simp
    rw [e, List.getElem?_append_right (by simp; omega)]
    simp [hm, hP]
  generalize hl : P ++ (x ++ (w :: S)) = l at *
  obtain ⟨r, r1, r2, r3, r4, r5⟩ := search (B := s4) (env := [row l, .int .i64 a, .int .i64 m, .int .i64 b, cf, .int .i64 (m - a), .bool false, .int .i64 (b - m), .bool true]) (p := fun c => gt l c ≤ w) (lo := a) (hi := m) (ex := .exit 4)
    (fun c c' h1 h2 h3 h4 => by
      rw [hg c' h1 (by omega)]; rw [hg c (by omega) h3] at h4
      have := srt_get hs (s := c' - a) (t := c - a) (by omega) (by omega)
      omega)
    (fun i j h1 h2 h3 => by
      refine R.op rfl (lssT (by omega)) (R.iteT rfl ?_)
      simp only [List.cons_append, List.nil_append]
      have hc := gt_get (l := l) (t := (i + j) / 2) (by omega)
      by_cases hp : gt l ((i + j) / 2) ≤ w
      · rw [if_pos hp]
        refine R.bindO (qs := [.int .i64 ((i + j) / 2 + 1 : Nat), .int .i64 j]) ?_ rfl (R.fin rfl)
        refine R_half (i := i) (j := j) rfl rfl rfl rfl rfl (by omega) ?_
        simp only [List.cons_append, List.nil_append]
        refine R.op rfl (eltM (i := m) rfl hw) (R.op rfl (eltM (i := (i + j) / 2) rfl hc) (R.callv rfl rfl rfl (cmp_ok _ _) rfl (R.op rfl (lssF (by have := mt cv_neg.1 (show ¬ w < gt l ((i + j) / 2) by omega); omega)) (R.op rfl rfl (R.iteT rfl ?_)))))
        exact R.op rfl (addI (r := (((i + j) / 2 + 1 : Nat) : Int)) (by omega) (by omega) (by omega)) (R.fin rfl)
      · rw [if_neg hp]
        refine R.bindO (qs := [.int .i64 i, .int .i64 ((i + j) / 2 : Nat)]) ?_ rfl (R.fin rfl)
        refine R_half (i := i) (j := j) rfl rfl rfl rfl rfl (by omega) ?_
        simp only [List.cons_append, List.nil_append]
        exact R.op rfl (eltM (i := m) rfl hw) (R.op rfl (eltM (i := (i + j) / 2) rfl hc) (R.callv rfl rfl rfl (cmp_ok _ _) rfl (R.op rfl (lssT (cv_neg.2 (by omega))) (R.op rfl rfl (R.iteF rfl (R.fin rfl)))))))
    (fun i => R.op rfl (lssF (Int.le_refl _)) (R.iteF rfl (R.fin rfl))) (by simp) _ a m (Nat.le_refl _) (Nat.le_refl _) (by omega) (Nat.le_refl _) (fun c h1 h2 => by omega) (fun c h1 h2 => by omega)
  refine ⟨x.take (r - a) ++ w :: x.drop (r - a), perm_mid, ?_, ?_⟩
  · refine srt_ins (by rw [List.take_append_drop]; exact hs) (fun c hc => ?_) fun c hc => ?_
    · obtain ⟨t, t1, t2, rfl⟩ := mem_take' hc
      have := r3 (a + t) (by omega) (by omega)
      rw [hg _ (by omega) (by omega), Nat.add_sub_cancel_left] at this
      omega
    · obtain ⟨t, t1, t2, rfl⟩ := mem_drop' hc
      have := r4 (a + t) (by omega) (by omega)
      rw [hg _ (by omega) (by omega), Nat.add_sub_cancel_left] at this
      omega
  · have l2 := loop6 (r0 := row l) (e5 := .int .i64 (m - a)) (e6 := .bool false) (e7 := .int .i64 (b - m)) (e8 := .bool true) (a := a) (m := m) (b := b) (i := r) (P := P ++ x.take (r - a)) (w := w) (by simp; omega) _ (u := x.drop (r - a)) (S := S) (kk := m) rfl (by simp; omega) (by omega)
    have e1 : P ++ x.take (r - a) ++ (x.drop (r - a) ++ w :: S) = l := by rw [List.append_assoc, ← List.append_assoc (x.take _), List.take_append_drop]; exact hl
    have e2 : P ++ x.take (r - a) ++ w :: (x.drop (r - a) ++ S) = P ++ (x.take (r - a) ++ w :: x.drop (r - a) ++ S) := by simp
    rw [e1, e2] at l2
    refine .tree rfl rfl (R.op rfl (subI rfl (by omega) (by omega)) (R.op rfl (eqlF (by omega)) (R.iteF rfl ?_)))
    simp only [List.cons_append, List.nil_append]
    refine R.op rfl (subI rfl (by omega) (by omega)) (R.op rfl (eqlT (by omega)) (R.iteT rfl ?_))
    simp only [List.cons_append, List.nil_append]
    exact R.bindO (R.loop rfl r5) rfl (R.bindO (R.loop rfl l2) rfl (R.fin rfl))
end Go.Proofs.Ytjofhegodknmaaa.St
/-! OrderStays: two parts of a row in order become one, whatever they are. -/
namespace Go.Proofs.Ytjofhegodknmaaa.St
open Go Go.RowKit
open W
open V (D)
def s8 : T := match t121 with | .op _ _ (.op _ _ (.ite _ _ (.op _ _ (.op _ _ (.ite _ _ (.op _ _ (.op _ _ (.op _ _ (.op _ _ (.op _ _ (.bind _ _ _ (.op _ _ (.bind _ (.loop _ b) _ _))))))))))))) => b | _ => default
theorem srt_nil {a b : List Int} (ha : Srt a) (hb : Srt b) (h : a = [] ∨ b = []) : Srt (a ++ b) := by
  rcases h with rfl | rfl <;> simpa using by assumption
/-- where both parts are cut -/
theorem cut_ok {P x y S : List Int} {a m b mid n lo hi : Nat} {e5 e6 e7 e8 e9 e10 e11 : D} (hP : P.length = a) (hm : m = a + x.length) (hb : b = m + y.length) (hB : b ≤ 1000) (hx : 0 < x.length) (hy : 0 < y.length) (sx : Srt x) (sy : Srt y) (hmid : mid = (a + b) / 2) (hn : n = mid + m)
    (hlo : lo = if mid < m then n - b else a) (hhi : hi = if mid < m then mid else m) :
    ∃ r, a ≤ r ∧ r ≤ m ∧ r ≤ mid ∧ n ≤ r + b ∧ (∀ c ∈ x.take (r - a), ∀ d ∈ y.drop (n - r - m), c ≤ d) ∧ (∀ c ∈ y.take (n - r - m), ∀ d ∈ x.drop (r - a), c ≤ d) ∧
      L F s8 [row (P ++ (x ++ (y ++ S))), .int .i64 a, .int .i64 m, .int .i64 b, cf, e5, e6, e7, e8, e9, e10, e11, .int .i64 mid, .int .i64 n, .int .i64 lo, .int .i64 hi, .int .i64 ((n : Int) - 1)] [.int .i64 lo, .int .i64 hi] (.exit 8) [.int .i64 r] := by
  have gx : ∀ t, t < x.length → gt (P ++ (x ++ (y ++ S))) (a + t) = gt x t := fun t h => by
    have := gt_seg (P := P) (x := x) (R := y ++ S) (t := t) h
    rw [hP] at this; exact this
  have gy : ∀ t, t < y.length → gt (P ++ (x ++ (y ++ S))) (m + t) = gt y t := fun t h => by
    have := gt_seg (P := P ++ x) (x := y) (R := S) (t := t) h
    rw [List.append_assoc, List.length_append, hP, ← hm] at this; exact this
  have hlen : (P ++ (x ++ (y ++ S))).length ≥ b := by simp; omega
  generalize hl : P ++ (x ++ (y ++ S)) = l at *
  have A : ∀ s t, a ≤ s → s ≤ t → t < m → gt l s ≤ gt l t := fun s t h1 h2 h3 => by
    have := srt_get sx (s := s - a) (t := t - a) (by omega) (by omega)
    rw [← gx _ (by omega), ← gx _ (by omega)] at this
    have e1 : a + (s - a) = s := by omega
    have e2 : a + (t - a) = t := by omega
    rwa [e1, e2] at this
  have B : ∀ s t, m ≤ s → s ≤ t → t < b → gt l s ≤ gt l t := fun s t h1 h2 h3 => by
    have := srt_get sy (s := s - m) (t := t - m) (by omega) (by omega)
    rw [← gy _ (by omega), ← gy _ (by omega)] at this
    have e1 : m + (s - m) = s := by omega
    have e2 : m + (t - m) = t := by omega
    rwa [e1, e2] at this
  have hr : a ≤ lo ∧ hi ≤ m ∧ hi ≤ mid ∧ n ≤ lo + b ∧ lo ≤ hi ∧ (lo = a ∨ lo = n - b) ∧ (hi = m ∨ hi = mid) ∧ ∀ c, lo ≤ c → c < hi → m ≤ n - 1 - c ∧ n - 1 - c < b := by
    split at hlo <;> split at hhi <;> first | (exfalso; omega) | exact ⟨by omega, by omega, by omega, by omega, by omega, by omega, by omega, fun c h1 h2 => by omega⟩
  obtain ⟨q1, q2, q3, q4, q5, q6, q7, q8⟩ := hr
  clear hlo hhi
  obtain ⟨r, r1, r2, r3, r4, r5⟩ := search (B := s8) (env := [row l, .int .i64 a, .int .i64 m, .int .i64 b, cf, e5, e6, e7, e8, e9, e10, e11, .int .i64 mid, .int .i64 n, .int .i64 lo, .int .i64 hi, .int .i64 ((n : Int) - 1)]) (p := fun c => gt l c ≤ gt l (n - 1 - c)) (lo := lo) (hi := hi) (ex := .exit 8)
    (fun c c' h1 h2 h3 h4 => by
      have h5 := A c' c (by omega) h2 (by omega)
      have h6 := B (n - 1 - c) (n - 1 - c') (q8 c (by omega) h3).1 (by omega) (q8 c' h1 (by omega)).2
      omega)
    (fun i j h1 h2 h3 => by
      refine R.op rfl (lssT (by omega)) (R.iteT rfl ?_)
      simp only [List.cons_append, List.nil_append]
      have hq := q8 ((i + j) / 2) (by omega) (by omega)
      have hc := gt_get (l := l) (t := (i + j) / 2) (by omega)
      have hd := gt_get (l := l) (t := n - 1 - (i + j) / 2) (by omega)
      by_cases hp : gt l ((i + j) / 2) ≤ gt l (n - 1 - (i + j) / 2)
      · rw [if_pos hp]
        refine R.bindO (qs := [.int .i64 ((i + j) / 2 + 1 : Nat), .int .i64 j]) ?_ rfl (R.fin rfl)
        refine R_half (i := i) (j := j) rfl rfl rfl rfl rfl (by omega) ?_
        simp only [List.cons_append, List.nil_append]
        refine R.op rfl (subI rfl (by omega) (by omega)) (R.op rfl (eltM (i := n - 1 - (i + j) / 2) (by omega) hd) (R.op rfl (eltM (i := (i + j) / 2) rfl hc) ?_))
        simp only [List.cons_append, List.nil_append]
        refine R.callv rfl rfl rfl (cmp_ok _ _) rfl (R.op rfl (lssF (by have := mt cv_neg.1 (show ¬ gt l (n - 1 - (i + j) / 2) < gt l ((i + j) / 2) by omega); omega)) (R.op rfl rfl (R.iteT rfl ?_)))
        exact R.op rfl (addI (r := (((i + j) / 2 + 1 : Nat) : Int)) (by omega) (by omega) (by omega)) (R.fin rfl)
      · rw [if_neg hp]
        refine R.bindO (qs := [.int .i64 i, .int .i64 ((i + j) / 2 : Nat)]) ?_ rfl (R.fin rfl)
        refine R_half (i := i) (j := j) rfl rfl rfl rfl rfl (by omega) ?_
        simp only [List.cons_append, List.nil_append]
        refine R.op rfl (subI rfl (by omega) (by omega)) (R.op rfl (eltM (i := n - 1 - (i + j) / 2) (by omega) hd) (R.op rfl (eltM (i := (i + j) / 2) rfl hc) ?_))
        simp only [List.cons_append, List.nil_append]
        exact R.callv rfl rfl rfl (cmp_ok _ _) rfl (R.op rfl (lssT (cv_neg.2 (by omega))) (R.op rfl rfl (R.iteF rfl (R.fin rfl)))))
    (fun i => R.op rfl (lssF (Int.le_refl _)) (R.iteF rfl (R.fin rfl))) (by simp) _ lo hi (Nat.le_refl _) (Nat.le_refl _) q5 (Nat.le_refl _) (fun c h1 h2 => by omega) (fun c h1 h2 => by omega)
  refine ⟨r, by omega, by omega, by omega, by omega, fun c hc d hd => ?_, fun c hc d hd => ?_, r5⟩
  · obtain ⟨s, s1, s2, rfl⟩ := mem_take' hc
    obtain ⟨t, t1, t2, rfl⟩ := mem_drop' hd
    rw [← gx s s2, ← gy t t2]
    have h := r3 (r - 1) (by omega) (by omega)
    have e : n - 1 - (r - 1) = n - r := by omega
    rw [e] at h
    have h1 := A (a + s) (r - 1) (by omega) (by omega) (by omega)
    have h2 := B (n - r) (m + t) (by omega) (by omega) (by omega)
    omega
  · obtain ⟨s, s1, s2, rfl⟩ := mem_take' hc
    obtain ⟨t, t1, t2, rfl⟩ := mem_drop' hd
    rw [← gy s s2, ← gx t t2]
    have h := r4 r (Nat.le_refl _) (by omega)
    have e : n - 1 - r = n - r - 1 := by omega
    rw [e] at h
    have h1 := B (m + s) (n - r - 1) (by omega) (by omega) (by omega)
    have h2 := A r (a + t) (by omega) (by omega) (by omega)
    omega
set_option maxHeartbeats 4000000 in
/-- two parts become one -/
theorem sym_ok : ∀ (k : Nat) {P x y S : List Int} {a m b : Nat} {aa mm bb : Int}, x.length + y.length ≤ k → P.length = a → m = a + x.length → b = m + y.length → 0 < x.length → 0 < y.length → b ≤ 1000 → Srt x → Srt y → aa = a → mm = m → bb = b →
    ∃ z, z.Perm (x ++ y) ∧ Srt z ∧ Cv F 121 [row (P ++ (x ++ (y ++ S))), .int .i64 aa, .int .i64 mm, .int .i64 bb, cf] [row (P ++ (z ++ S))]
  | 0, P, x, y, S, a, m, b, aa, mm, bb, hk, hP, hm, hb, hx, hy, hB, sx, sy, h1, h2, h3 => by omega
  | k + 1, P, x, y, S, a, m, b, aa, mm, bb, hk, hP, hm, hb, hx, hy, hB, sx, sy, h1, h2, h3 => by
    subst h1 h2 h3
    by_cases c1 : x.length = 1
    · obtain ⟨w, rfl⟩ := List.length_eq_one_iff.1 c1
      exact one_l hP (by simpa using hm) hb hB sy
    by_cases c2 : y.length = 1
    · obtain ⟨w, rfl⟩ := List.length_eq_one_iff.1 c2
      obtain ⟨z, z1, z2, z3⟩ := one_r (P := P) (x := x) (S := S) (w := w) hP hm (by omega) (by simpa using hb) hB sx
      exact ⟨z, z1.trans (by simpa using List.perm_middle (a := w) (l₁ := x) (l₂ := []) |>.symm), z2, z3⟩
    obtain ⟨mid, hmid⟩ : ∃ mid, mid = (a + b) / 2 := ⟨_, rfl⟩
    obtain ⟨n, hn⟩ : ∃ n, n = mid + m := ⟨_, rfl⟩
    obtain ⟨lo, hlo⟩ : ∃ lo, lo = if mid < m then n - b else a := ⟨_, rfl⟩
    obtain ⟨hi, hhi⟩ : ∃ hi, hi = if mid < m then mid else m := ⟨_, rfl⟩
    obtain ⟨r, r1, r2, r3, r4, d1, d2, r5⟩ := cut_ok (P := P) (x := x) (y := y) (S := S) (e5 := .int .i64 (m - a)) (e6 := .bool false) (e7 := .int .i64 (b - m)) (e8 := .bool false) (e9 := .int .i64 (a + b : Nat)) (e10 := .int .u64 (a + b : Nat)) (e11 := .int .u64 ((a + b) / 2 : Nat)) hP hm hb hB hx hy sx sy hmid hn hlo hhi
    -- the parts
    have hx12 := (List.take_append_drop (r - a) x).symm
    have hy12 := (List.take_append_drop (n - r - m) y).symm
    have lx1 : (x.take (r - a)).length = r - a := by simp; omega
    have ly1 : (y.take (n - r - m)).length = n - r - m := by simp; omega
    generalize x.take (r - a) = x1 at *
    generalize x.drop (r - a) = x2 at *
    generalize y.take (n - r - m) = y1 at *
    generalize y.drop (n - r - m) = y2 at *
    subst hx12 hy12
    simp only [List.length_append] at *
    obtain ⟨sx1, sx2, sx3⟩ := srt_app.1 sx
    obtain ⟨sy1, sy2, sy3⟩ := srt_app.1 sy
    -- the left one
    obtain ⟨z1, p1, o1, t1, u1⟩ : ∃ z1 : List Int, z1.Perm (x1 ++ y1) ∧ Srt z1 ∧ (a < r → r < mid → Cv F 121 [row (P ++ (x1 ++ (y1 ++ (x2 ++ (y2 ++ S))))), .int .i64 a, .int .i64 r, .int .i64 mid, cf] [row (P ++ (z1 ++ (x2 ++ (y2 ++ S))))]) ∧ (¬ (a < r ∧ r < mid) → z1 = x1 ++ y1) := by
      by_cases h : a < r ∧ r < mid
      · obtain ⟨z, z1, z2, z3⟩ := sym_ok k (P := P) (x := x1) (y := y1) (S := x2 ++ (y2 ++ S)) (a := a) (m := r) (b := mid) (aa := a) (mm := r) (bb := mid) (by omega) hP (by omega) (by omega) (by omega) (by omega) (by omega) sx1 sy1 rfl rfl rfl
        exact ⟨z, z1, z2, fun _ _ => z3, fun h' => absurd h h'⟩
      · refine ⟨x1 ++ y1, .refl _, srt_nil sx1 sy1 ?_, fun h1 h2 => absurd ⟨h1, h2⟩ h, fun _ => rfl⟩
        by_cases h1 : a < r
        · exact .inr (List.eq_nil_of_length_eq_zero (by omega))
        · exact .inl (List.eq_nil_of_length_eq_zero (by omega))
    have lz1 : z1.length = mid - a := by have := p1.length_eq; simp at this; omega
    -- the right one
    obtain ⟨z2, p2, o2, t2, u2⟩ : ∃ z2 : List Int, z2.Perm (x2 ++ y2) ∧ Srt z2 ∧ (mid < n - r → n - r < b → Cv F 121 [row (P ++ (z1 ++ (x2 ++ (y2 ++ S)))), .int .i64 mid, .int .i64 (n - r : Nat), .int .i64 b, cf] [row (P ++ (z1 ++ (z2 ++ S)))]) ∧ (¬ (mid < n - r ∧ n - r < b) → z2 = x2 ++ y2) := by
      by_cases h : mid < n - r ∧ n - r < b
      · obtain ⟨z, z1', z2, z3⟩ := sym_ok k (P := P ++ z1) (x := x2) (y := y2) (S := S) (a := mid) (m := n - r) (b := b) (aa := mid) (mm := (n - r : Nat)) (bb := b) (by omega) (by simp; omega) (by omega) (by omega) (by omega) (by omega) (by omega) sx2 sy2 rfl rfl rfl
        simp only [List.append_assoc] at z3
        exact ⟨z, z1', z2, fun _ _ => z3, fun h' => absurd h h'⟩
      · refine ⟨x2 ++ y2, .refl _, srt_nil sx2 sy2 ?_, fun h1 h2 => absurd ⟨h1, h2⟩ h, fun _ => rfl⟩
        by_cases h1 : mid < n - r
        · exact .inr (List.eq_nil_of_length_eq_zero (by omega))
        · exact .inl (List.eq_nil_of_length_eq_zero (by omega))
    refine ⟨z1 ++ z2, ?_, ?_, ?_⟩
    · refine (List.Perm.append p1 p2).trans ?_
      simp only [List.append_assoc]
      refine List.Perm.append_left _ ?_
      rw [← List.append_assoc, ← List.append_assoc]
      exact List.Perm.append_right _ List.perm_append_comm
    · refine srt_app.2 ⟨o1, o2, fun c hc d hd => ?_⟩
      have hc := p1.mem_iff.1 hc
      have hd := p2.mem_iff.1 hd
      rcases List.mem_append.1 hc with hc | hc <;> rcases List.mem_append.1 hd with hd | hd
      · exact sx3 c hc d hd
      · exact d1 c hc d hd
      · exact d2 c hc d hd
      · exact sy3 c hc d hd
    -- the walk
    have e0 : P ++ (x1 ++ x2 ++ (y1 ++ y2 ++ S)) = P ++ (x1 ++ (x2 ++ (y1 ++ (y2 ++ S)))) := by simp
    have e9 : P ++ (z1 ++ z2 ++ S) = P ++ (z1 ++ (z2 ++ S)) := by simp
    rw [e0] at r5 ⊢
    rw [e9]
    refine .tree rfl rfl (R.op rfl (subI rfl (by omega) (by omega)) (R.op rfl (eqlF (by omega)) (R.iteF rfl (R.op rfl (subI rfl (by omega) (by omega)) (R.op rfl (eqlF (by omega)) (R.iteF rfl ?_))))))
    simp only [List.cons_append, List.nil_append]
    refine R_half (i := a) (j := b) rfl rfl rfl rfl rfl (by omega) ?_
    simp only [List.cons_append, List.nil_append, ← hmid]
    refine R.op rfl (addI (r := (n : Int)) (by omega) (by omega) (by omega)) ?_
    simp only [List.cons_append, List.nil_append]
    refine R.bindO (qs := [.int .i64 lo, .int .i64 hi]) ?_ rfl ?_
    · by_cases h : mid < m
      · rw [if_pos h] at hlo hhi
        rw [hhi]
        exact R.op rfl (gtrT (by omega)) (R.iteT rfl (R.op rfl (subI (r := (lo : Int)) (by omega) (by omega) (by omega)) (R.fin rfl)))
      · rw [if_neg h] at hlo hhi
        rw [hlo, hhi]
        exact R.op rfl (gtrF (by omega)) (R.iteF rfl (R.fin rfl))
    simp only [List.cons_append, List.nil_append]
    refine R.op rfl (subI rfl (by omega) (by omega)) ?_
    simp only [List.cons_append, List.nil_append]
    rw [← hmid] at r5
    refine R.bindO (R.loop rfl r5) rfl ?_
    simp only [List.cons_append, List.nil_append]
    refine R.op rfl (subI (r := ((n - r : Nat) : Int)) (by omega) (by omega) (by omega)) ?_
    simp only [List.cons_append, List.nil_append]
    refine R.bindO (qs := [row (P ++ (x1 ++ (y1 ++ (x2 ++ (y2 ++ S)))))]) ?_ rfl ?_
    · by_cases h1 : r < m
      · by_cases h2 : m < n - r
        · have hr := rot_ok (g := cf) (P := P ++ x1) (u := x2) (v := y1) (S := y2 ++ S) (aa := r) (mm := m) (bb := (n - r : Nat)) (a := r) (m := m) (b := n - r) (by omega) rfl rfl rfl (by simp; omega) (by omega) (by omega) (by omega) (by omega)
          simp only [List.append_assoc] at hr
          exact R.op rfl (lssT (by omega)) (R.iteT rfl (R.op rfl (lssT (by omega)) (R.iteT rfl (R.call rfl hr rfl (R.fin rfl)))))
        · obtain rfl : y1 = [] := List.eq_nil_of_length_eq_zero (by omega)
          simp only [List.nil_append]
          exact R.op rfl (lssT (by omega)) (R.iteT rfl (R.op rfl (lssF (by omega)) (R.iteF rfl (R.fin rfl))))
      · obtain rfl : x2 = [] := List.eq_nil_of_length_eq_zero (by omega)
        simp only [List.nil_append]
        exact R.op rfl (lssF (by omega)) (R.iteF rfl (R.fin rfl))
    simp only [List.cons_append, List.nil_append]
    refine R.bindO (qs := [row (P ++ (z1 ++ (x2 ++ (y2 ++ S))))]) ?_ rfl ?_
    · by_cases h1 : a < r
      · by_cases h2 : r < mid
        · exact R.op rfl (lssT (by omega)) (R.iteT rfl (R.op rfl (lssT (by omega)) (R.iteT rfl (R.call rfl (t1 h1 h2) rfl (R.fin rfl)))))
        · have e := u1 fun h => h2 h.2
          rw [e]
          simp only [List.append_assoc]
          exact R.op rfl (lssT (by omega)) (R.iteT rfl (R.op rfl (lssF (by omega)) (R.iteF rfl (R.fin rfl))))
      · have e := u1 fun h => h1 h.1
        rw [e]
        simp only [List.append_assoc]
        exact R.op rfl (lssF (by omega)) (R.iteF rfl (R.fin rfl))
    simp only [List.cons_append, List.nil_append]
    by_cases h1 : mid < n - r
    · by_cases h2 : n - r < b
      · exact R.op rfl (lssT (by omega)) (R.iteT rfl (R.op rfl (lssT (by omega)) (R.iteT rfl (R.call rfl (t2 h1 h2) rfl (R.fin rfl)))))
      · have e := u2 fun h => h2 h.2
        rw [e]
        simp only [List.append_assoc]
        exact R.op rfl (lssT (by omega)) (R.iteT rfl (R.op rfl (lssF (by omega)) (R.iteF rfl (R.fin rfl))))
    · have e := u2 fun h => h1 h.1
      rw [e]
      simp only [List.append_assoc]
      exact R.op rfl (lssF (by omega)) (R.iteF rfl (R.fin rfl))
end Go.Proofs.Ytjofhegodknmaaa.St
/-! OrderStays: a row put in order; doubles go. -/
namespace Go.Proofs.Ytjofhegodknmaaa.St
open Go Go.RowKit
open W
open V (D)
def b98 : T := match t98 with | .bind _ (.loop _ b) _ _ => b | _ => default
def c98 : T := match t98 with | .bind _ _ _ (.call _ _ _ (.bind _ (.loop _ b) _ _)) => b | _ => default
/-- stableCmpFunc, up to thirty -/
theorem stable_ok {l : List Int} (hl : l.length ≤ 30) : ∃ z, z.Perm l ∧ Srt z ∧ Cv F 98 [row l, .int .i64 l.length, cf] [row z] := by
  by_cases h : l.length < 20
  · obtain ⟨z, p, s, c⟩ := ins_ok (P := []) (x := l) (S := []) (a := 0) (b := l.length) (aa := 0) (bb := l.length) rfl (by omega) (by omega) rfl rfl
    simp only [List.nil_append, List.append_nil] at c
    refine ⟨z, p, s, .tree rfl rfl ?_⟩
    refine R.bindO (qs := [.int .i64 0, row l]) (R.loop rfl (.out (R.op rfl (leqF (by omega)) (R.iteF rfl (R.fin rfl))) (by simp))) rfl ?_
    refine R.call rfl c rfl (R.bindO (qs := [row z]) (R.loop rfl (.out (R.op rfl (lssF (by omega)) (R.iteF rfl (R.fin rfl))) (by simp))) rfl (R.fin rfl))
  · obtain ⟨x, y, rfl, hx⟩ : ∃ x y, l = x ++ y ∧ x.length = 20 := ⟨l.take 20, l.drop 20, (List.take_append_drop _ _).symm, by simp; omega⟩
    simp only [List.length_append] at hl h
    obtain ⟨x', p1, s1, d1⟩ := ins_ok (P := []) (x := x) (S := y) (a := 0) (b := 20) (aa := 0) (bb := 20) rfl (by omega) (by omega) rfl rfl
    have lx : x'.length = 20 := by have := p1.length_eq; omega
    obtain ⟨y', p2, s2, d2⟩ := ins_ok (P := x') (x := y) (S := []) (a := 20) (b := 20 + y.length) (aa := 20) (bb := ((x ++ y).length : Nat)) lx rfl (by omega) rfl (by simp; omega)
    have ly : y'.length = y.length := p2.length_eq
    simp only [List.nil_append, List.append_nil] at d1 d2
    have first : R F t98 [row (x ++ y), .int .i64 ((x ++ y).length : Nat), cf] .ret [row (x' ++ y')] ∨ True := .inr trivial
    have hlen : ((x ++ y).length : Nat) = 20 + y.length := by simp; omega
    have loop1 : L F b98 [row (x ++ y), .int .i64 ((x ++ y).length : Nat), cf] [.int .i64 0, .int .i64 20, row (x ++ y)] (.exit 0) [.int .i64 20, row (x' ++ y)] := by
      refine Lm (.out (R.op rfl (leqF (by omega)) (R.iteF rfl (R.fin rfl))) (by simp)) ?_ rfl (ds' := [.int .i64 20, .int .i64 40, row (x' ++ y)])
      refine R.op rfl (leqT (by omega)) (R.iteT rfl (R.call rfl d1 rfl (R.op rfl (addI (r := 40) (by omega) (by omega) (by omega)) (R.fin rfl))))
    by_cases h0 : y.length = 0
    · obtain rfl := List.eq_nil_of_length_eq_zero h0
      obtain rfl := List.eq_nil_of_length_eq_zero (show y'.length = 0 by omega)
      refine ⟨x', by simpa using p1, s1, .tree rfl rfl ?_⟩
      refine R.bindO (R.loop rfl loop1) rfl (R.call rfl d2 rfl ?_)
      simp only [List.append_nil] at *
      refine R.bindO (qs := [row x']) (R.loop rfl (.out (R.op rfl (lssF (by omega)) (R.iteF rfl (R.fin rfl))) (by simp))) rfl (R.fin rfl)
    · obtain ⟨z, p3, s3, d3⟩ := sym_ok 100 (P := []) (x := x') (y := y') (S := []) (a := 0) (m := 20) (b := 20 + y.length) (aa := 0) (mm := 20) (bb := ((x ++ y).length : Nat)) (by omega) rfl (by omega) (by omega) (by omega) (by omega) (by omega) s1 s2 rfl rfl (by omega)
      simp only [List.nil_append, List.append_nil] at d3
      refine ⟨z, p3.trans (List.Perm.append p1 p2), s3, .tree rfl rfl ?_⟩
      refine R.bindO (R.loop rfl loop1) rfl (R.call rfl d2 rfl ?_)
      simp only [List.cons_append, List.nil_append]
      refine R.bindO (qs := [row z]) (R.loop rfl ?_) rfl (R.fin rfl)
      refine Lm (ds' := [.int .i64 40, row z]) (.out (R.op rfl (lssF (by omega)) (R.iteF rfl (R.fin rfl))) (by simp)) ?_ rfl
      refine R.op rfl (lssT (by omega)) (R.iteT rfl (R.op rfl (mulI (r := 40) (by omega) (by omega) (by omega)) ?_))
      simp only [List.cons_append, List.nil_append]
      refine R.bindO (qs := [.int .i64 0, row (x' ++ y')]) (R.loop rfl (.out (R.op rfl (leqF (by omega)) (R.iteF rfl (R.fin rfl))) (by simp))) rfl ?_
      simp only [List.cons_append, List.nil_append]
      refine R.bindO (qs := [row z]) (R.op rfl (addI (r := 20) (by omega) (by omega) (by omega)) (R.op rfl (lssT (by omega)) (R.iteT rfl (R.call rfl d3 rfl (R.fin rfl))))) rfl ?_
      exact R.op rfl (mulI (r := 40) (by omega) (by omega) (by omega)) (R.fin rfl)
theorem sort_ok {l : List Int} (hl : l.length ≤ 30) : ∃ z, z.Perm l ∧ Srt z ∧ Cv F 68 [row l, cf] [row z] := by
  obtain ⟨z, p, s, c⟩ := stable_ok hl
  exact ⟨z, p, s, .tree rfl rfl (R.op rfl (lenI (by simp)) (R.call rfl c rfl (R.fin rfl)))⟩
/-! Doubles. -/
abbrev ef : D := .fn 70 []
theorem eq_ok (a b : Int) : Cv F 70 [el a, el b] [.bool (decide (a = b))] := by
  refine .tree rfl rfl ?_
  iterate 10 refine R.op rfl rfl ?_
  simp only [List.cons_append, List.nil_append]
  refine R.call rfl (cmp_ok a b) rfl ?_
  by_cases h : a = b
  · rw [decide_eq_true h]
    exact R.op rfl (eqlT (cv_eq.2 h)) (R.fin rfl)
  · rw [decide_eq_false h]
    exact R.op rfl (eqlF (mt cv_eq.1 h)) (R.fin rfl)
theorem slcD {l : List D} {i j : Nat} {ii jj : Int} (hl : ∀ d ∈ l, d.cells.length = 5) (hi : ii = i) (hj : jj = j) (h1 : i ≤ j) (h2 : j ≤ l.length) : copD (.pop (.slc 5 true true)) [.lst l, .int .i64 ii, .int .i64 jj] = some (.lst ((l.take j).drop i)) := by
  subst hi hj
  have h : l.all (fun d => Nat.beq d.cells.length 5) = true := List.all_eq_true.2 fun d hd => by rw [hl d hd]; rfl
  have e1 : Nat.ble i j = true := by rw [Nat.ble_eq]; exact h1
  have e2 : Nat.ble j l.length = true := by rw [Nat.ble_eq]; exact h2
  simp [copD, freeP, popD, boundD, h, e1, e2]
theorem slcL {l : List D} {i : Nat} {ii : Int} (hl : ∀ d ∈ l, d.cells.length = 5) (hi : ii = i) (h1 : i ≤ l.length) : copD (.pop (.slc 5 true false)) [.lst l, .int .i64 ii] = some (.lst (l.drop i)) := by
  subst hi
  have h : l.all (fun d => Nat.beq d.cells.length 5) = true := List.all_eq_true.2 fun d hd => by rw [hl d hd]; rfl
  have e1 : Nat.ble i l.length = true := by rw [Nat.ble_eq]; exact h1
  have e2 : Nat.ble l.length l.length = true := by rw [Nat.ble_eq]; exact Nat.le_refl _
  simp [copD, freeP, popD, boundD, h, e1, e2]
theorem slcR {l : List D} {j : Nat} {jj : Int} (hl : ∀ d ∈ l, d.cells.length = 5) (hj : jj = j) (h2 : j ≤ l.length) : copD (.pop (.slc 5 false true)) [.lst l, .int .i64 jj] = some (.lst (l.take j)) := by
  subst hj
  have h : l.all (fun d => Nat.beq d.cells.length 5) = true := List.all_eq_true.2 fun d hd => by rw [hl d hd]; rfl
  have e2 : Nat.ble j l.length = true := by rw [Nat.ble_eq]; exact h2
  have e1 : Nat.ble 0 j = true := by rw [Nat.ble_eq]; exact (Nat.zero_le _)
  simp [copD, freeP, popD, boundD, h, e1, e2]
theorem row_cells {l : List Int} : ∀ d ∈ l.map el, d.cells.length = 5 := fun d hd => by obtain ⟨a, _, rfl⟩ := List.mem_map.1 hd; rfl
theorem slcM {l : List Int} {i j : Nat} {ii jj : Int} (hi : ii = i) (hj : jj = j) (h1 : i ≤ j) (h2 : j ≤ l.length) : copD (.pop (.slc 5 true true)) [row l, .int .i64 ii, .int .i64 jj] = some (row ((l.take j).drop i)) := by
  rw [slcD row_cells hi hj h1 (by simpa using h2)]; simp [row]
def zel : D := .agg [.int .i64 0, .int .i64 0, V.txt [], .nil, .nil]
theorem clrD {l : List D} {i j : Nat} {ii jj : Int} (hi : ii = i) (hj : jj = j) (h1 : i ≤ j) (h2 : j ≤ l.length) : copD (.pop (.clr 5 [.int .i64 0, .int .i64 0, V.txt [], .nil, .nil] true)) [.lst l, .int .i64 ii, .int .i64 jj] = some (.lst (l.take i ++ List.replicate (j - i) zel ++ l.drop j)) := by
  subst hi hj
  have h : (0 : Int) ≤ i ∧ (i : Int) ≤ j ∧ (j : Int).toNat ≤ l.length ∧ rowOk 5 true (if true = true then .agg [.int .i64 0, .int .i64 0, V.txt [], .nil, .nil] else ([.int .i64 0, .int .i64 0, V.txt [], .nil, .nil] : List D).headD .nil) = true := ⟨by omega, by omega, by omega, rfl⟩
  show (if _ then _ else _ : Option D) = _
  rw [if_pos h]
  simp [zel]
theorem addNI {m n r : Int} (h : r = m + n) (h1 : 0 ≤ m) (h2 : 0 ≤ n) : copD (.pop .addN) [.int .i64 m, .int .i64 n] = some (.int .i64 r) := by
  subst h; simp [copD, freeP, popD, h1, h2]
def b69 : T := match t69 with | .op _ _ (.op _ _ (.ite _ _ (.bind _ (.loop _ b) _ _))) => b | _ => default
def c69 : T := match b69 with | .op _ _ (.ite _ (.op _ _ (.op _ _ (.op _ _ (.callv _ _ _ _ (.ite _ (.op _ _ (.bind _ (.loop _ b) _ _)) _))))) _) => b | _ => default
/-- what stays, of the rest -/
theorem inner69 {r0 e3 e5 e6 e7 e8 e9 e10 : D} {n k : Nat} (hn : n ≤ 1000) : ∀ (t : List Int) {c M : List Int} {p : Int} {k2 : Nat} {kk ii : Int}, kk = c.length → ii = k2 → 1 ≤ k2 → c.length + M.length = k + k2 - 1 → n = c.length + M.length + 1 + t.length → c.Pairwise (· < ·) → (∃ d, c = d ++ [p]) → Srt (p :: t) →
    ∃ c' M', c'.Pairwise (· < ·) ∧ (∀ x, x ∈ c' ↔ x ∈ c ∨ x ∈ t) ∧ c' ≠ [] ∧ c'.length + M'.length = n ∧ L F c69 [r0, ef, .int .i64 n, e3, .int .i64 k, e5, e6, e7, e8, e9, e10] [.int .i64 kk, .int .i64 ii, row (c ++ (M ++ p :: t))] (.exit 2) [.int .i64 c'.length, row (c' ++ M')]
  | [], c, M, p, k2, kk, ii, hk, hi, h1, h2, h3, h4, h5, h6 => by
    subst hk hi
    obtain ⟨d, rfl⟩ := h5
    simp only [List.length_nil, List.length_append, List.length_cons] at h3 h2
    refine ⟨d ++ [p], M ++ [p], h4, by simp, by simp, by simp; omega, ?_⟩
    refine .out ?_ (by simp)
    refine R.op rfl (slcM (i := k) (j := n) rfl rfl (by omega) (by simp; omega)) (R.op rfl (lenI rfl) (R.op rfl (lssF (by simp; omega)) (R.iteF rfl (R.fin rfl))))
  | e :: t, c, M, p, k2, kk, ii, hk, hi, h1, h2, h3, h4, h5, h6 => by
    subst hk hi
    simp only [List.length_cons] at h3
    have hlen : (c ++ (M ++ p :: e :: t)).length = n := by simp; omega
    have h6' := List.pairwise_cons.1 h6
    have g1 : (((c ++ (M ++ p :: e :: t)).take n).drop k)[k2]? = some e := by
      rw [List.take_of_length_le (by omega), List.getElem?_drop]
      have : c ++ (M ++ p :: e :: t) = (c ++ M ++ [p]) ++ e :: t := by simp
      rw [this, List.getElem?_append_right (by simp; omega)]
      simp only [List.length_append, List.length_cons, List.length_nil]
      have : k + k2 - (c.length + M.length + (0 + 1)) = 0 := by omega
      rw [this]; rfl
    have g2 : (((c ++ (M ++ p :: e :: t)).take n).drop k)[k2 - 1]? = some p := by
      rw [List.take_of_length_le (by omega), List.getElem?_drop]
      have : c ++ (M ++ p :: e :: t) = (c ++ M) ++ p :: e :: t := by simp
      rw [this, List.getElem?_append_right (by simp; omega)]
      simp only [List.length_append]
      have : k + (k2 - 1) - (c.length + M.length) = 0 := by omega
      rw [this]; rfl
    have ls : (((c ++ (M ++ p :: e :: t)).take n).drop k).length = n - k := by simp; omega
    by_cases h : e = p
    · subst h
      obtain ⟨c', M', q1, q2, q3, q4, q5⟩ := inner69 (r0 := r0) (e3 := e3) (e5 := e5) (e6 := e6) (e7 := e7) (e8 := e8) (e9 := e9) (e10 := e10) (n := n) (k := k) hn t (c := c) (M := M ++ [e]) (p := e) (k2 := k2 + 1) (kk := c.length) (ii := (k2 : Int) + 1) rfl (by omega) (by omega) (by simp; omega) (by simp; omega) h4 h5 h6'.2
      refine ⟨c', M', q1, fun x => ?_, q3, q4, ?_⟩
      · rw [q2]
        obtain ⟨d, rfl⟩ := h5
        simp only [List.mem_append, List.mem_cons, List.not_mem_nil, or_false]
        constructor
        · rintro ((h | h) | h) <;> simp [h]
        · rintro ((h | h) | h | h) <;> simp [h]
      · have e1 : c ++ (M ++ [e] ++ e :: t) = c ++ (M ++ e :: e :: t) := by simp
        rw [e1] at q5
        refine Lm q5 ?_ rfl
        refine R.op rfl (slcM (i := k) (j := n) rfl rfl (by omega) (by omega)) (R.op rfl (lenI rfl) (R.op rfl (lssT (by simp; omega)) (R.iteT rfl ?_)))
        simp only [List.cons_append, List.nil_append]
        refine R.bindO (qs := [.int .i64 c.length, row (c ++ (M ++ e :: e :: t))]) ?_ rfl (R.op rfl (addI rfl (by omega) (by omega)) (R.fin rfl))
        refine R.op rfl (slcM (i := k) (j := n) rfl rfl (by omega) (by omega)) (R.op rfl (eltM (i := k2) rfl g1) (R.op rfl (addNI rfl (by omega) (by omega)) (R.op rfl (subI rfl (by omega) (by omega)) ?_)))
        simp only [List.cons_append, List.nil_append]
        refine R.op rfl (slcM (i := k) (j := n) rfl rfl (by omega) (by omega)) (R.op rfl (eltM (i := k2 - 1) (by omega) g2) (R.op rfl (addNI rfl (by omega) (by omega)) ?_))
        simp only [List.cons_append, List.nil_append]
        refine R.callv rfl rfl rfl (eq_ok _ _) rfl ?_
        rw [decide_eq_true rfl]
        exact R.op rfl rfl (R.iteF rfl (R.fin rfl))
    · obtain ⟨f, M1, hM⟩ : ∃ f M1, M ++ [p] = f :: M1 := by cases M with
        | nil => exact ⟨p, [], rfl⟩
        | cons f M => exact ⟨f, M ++ [p], rfl⟩
      have hM1 : M1.length = M.length := by have := congrArg List.length hM; simp at this; omega
      have hpe : p < e := by have := h6'.1 e (by simp); omega
      obtain ⟨c', M', q1, q2, q3, q4, q5⟩ := inner69 (r0 := r0) (e3 := e3) (e5 := e5) (e6 := e6) (e7 := e7) (e8 := e8) (e9 := e9) (e10 := e10) (n := n) (k := k) hn t (c := c ++ [e]) (M := M1) (p := e) (k2 := k2 + 1) (kk := (c.length : Int) + 1) (ii := (k2 : Int) + 1) (by simp) (by omega) (by omega) (by simp; omega) (by simp; omega) (by
        refine List.pairwise_append.2 ⟨h4, List.pairwise_singleton _ _, fun x hx y hy => ?_⟩
        simp only [List.mem_singleton] at hy
        subst hy
        obtain ⟨d, rfl⟩ := h5
        rcases List.mem_append.1 hx with hx | hx
        · have := (List.pairwise_append.1 h4).2.2 x hx p (by simp); omega
        · simp only [List.mem_singleton] at hx; omega) ⟨c, rfl⟩ h6'.2
      refine ⟨c', M', q1, fun x => ?_, q3, q4, ?_⟩
      · rw [q2]; simp only [List.mem_append, List.mem_cons, List.not_mem_nil, or_false]
        constructor
        · rintro ((h | h) | h) <;> simp [h]
        · rintro (h | h | h) <;> simp [h]
      · have e0 : c ++ (M ++ p :: e :: t) = c ++ f :: (M1 ++ e :: t) := by
          have : M ++ p :: e :: t = (M ++ [p]) ++ e :: t := by simp
          rw [this, hM]; simp
        have e1 : (c ++ f :: (M1 ++ e :: t)).set c.length e = c ++ [e] ++ (M1 ++ e :: t) := by simp
        have g3 : (c ++ f :: (M1 ++ e :: t))[c.length]? = some f := by simp
        rw [e0] at g1 g2 hlen ls ⊢
        rw [← e1] at q5
        refine Lm q5 ?_ rfl
        refine R.op rfl (slcM (i := k) (j := n) rfl rfl (by omega) (by omega)) (R.op rfl (lenI rfl) (R.op rfl (lssT (by simp; omega)) (R.iteT rfl ?_)))
        simp only [List.cons_append, List.nil_append]
        refine R.bindO (qs := [.int .i64 ((c.length : Int) + 1), row ((c ++ f :: (M1 ++ e :: t)).set c.length e)]) ?_ rfl (R.op rfl (addI rfl (by omega) (by omega)) (R.fin rfl))
        refine R.op rfl (slcM (i := k) (j := n) rfl rfl (by omega) (by omega)) (R.op rfl (eltM (i := k2) rfl g1) (R.op rfl (addNI rfl (by omega) (by omega)) (R.op rfl (subI rfl (by omega) (by omega)) ?_)))
        simp only [List.cons_append, List.nil_append]
        refine R.op rfl (slcM (i := k) (j := n) rfl rfl (by omega) (by omega)) (R.op rfl (eltM (i := k2 - 1) (by omega) g2) (R.op rfl (addNI rfl (by omega) (by omega)) ?_))
        simp only [List.cons_append, List.nil_append]
        refine R.callv rfl rfl rfl (eq_ok _ _) rfl ?_
        rw [decide_eq_false h]
        refine R.op rfl rfl (R.iteT rfl (R.op rfl (slcM (i := k) (j := n) rfl rfl (by omega) (by omega)) (R.op rfl (eltM (i := k2) rfl g1) (R.op rfl (eltM (i := c.length) rfl g3) ?_))))
        simp only [List.cons_append, List.nil_append]
        refine R_upd (l := c ++ f :: (M1 ++ e :: t)) (a := e) (i := c.length) rfl rfl rfl rfl rfl (by simp) ?_
        simp only [List.cons_append, List.nil_append]
        exact R.op rfl (addI rfl (by omega) (by omega)) (R.fin rfl)
end Go.Proofs.Ytjofhegodknmaaa.St
/-! OrderStays: what is normal. -/
namespace Go.Proofs.Ytjofhegodknmaaa.St
open Go Go.RowKit
open W
open V (D)
theorem outer69 {z : List Int} {n : Nat} (hn : z.length = n) (hB : n ≤ 1000) (hs : Srt z) : ∀ (t : List Int) {c : List Int} {kk : Int}, z = c ++ t → kk = c.length → c.Pairwise (· < ·) → (∃ d p, c = d ++ [p]) →
    (∃ c' r', c'.Pairwise (· < ·) ∧ (∀ x, x ∈ c' ↔ x ∈ z) ∧ c' ≠ [] ∧ c'.length ≤ n ∧ L F b69 [row z, ef, .int .i64 n, .bool false] [.int .i64 kk] .ret [row c', r']) ∨ (z.Pairwise (· < ·) ∧ L F b69 [row z, ef, .int .i64 n, .bool false] [.int .i64 kk] (.exit 0) [])
  | [], c, kk, hz, hk, hc, hd => by
    simp only [List.append_nil] at hz
    subst hz
    exact .inr ⟨hc, .out (R.op rfl (lssF (by omega)) (R.iteF rfl (R.fin rfl))) (by simp)⟩
  | e :: t, c, kk, hz, hk, hc, hd => by
    obtain ⟨d, p, hd⟩ := hd
    have hlen : c.length + 1 + t.length = n := by rw [hz] at hn; simp at hn; omega
    have hdl : c.length = d.length + 1 := by rw [hd]; simp
    have g1 : z[c.length]? = some e := by rw [hz]; simp
    have g2 : z[c.length - 1]? = some p := by
      rw [hz, hd, List.append_assoc, List.getElem?_append_right (by simp)]
      simp
    by_cases h : e = p
    · left
      subst h
      have hs2 : Srt (e :: t) := by rw [hz] at hs; exact (srt_app.1 hs).2.1
      obtain ⟨c', M', q1, q2, q3, q4, q5⟩ := inner69 (r0 := row z) (e3 := .bool false) (e5 := .bool true) (e6 := el e) (e7 := .int .i64 (kk - 1)) (e8 := el e) (e9 := .bool true) (e10 := .lst ((z.map el).drop c.length)) (n := n) (k := c.length) hB t (c := c) (M := []) (p := e) (k2 := 1) (kk := c.length) (ii := 1) rfl rfl (Nat.le_refl _) (by simp) (by simp; omega) hc ⟨d, hd⟩ hs2
      simp only [List.nil_append, ← hz] at q5
      refine ⟨c', _, q1, fun x => ?_, q3, by omega, .out (x := .ret) (rs := [row c', .lst (((c' ++ M').map el).take c'.length ++ List.replicate ((c' ++ M').length - c'.length) zel ++ ((c' ++ M').map el).drop (c' ++ M').length)]) ?_ (by simp)⟩
      · rw [q2, hz, hd]; simp only [List.mem_append, List.mem_cons, List.not_mem_nil, or_false]
        constructor
        · rintro ((h | h) | h) <;> simp [h]
        · rintro ((h | h) | h | h) <;> simp [h]
      · subst hk
        refine R.op rfl (lssT (by omega)) (R.iteT rfl (R.op rfl (eltM (i := c.length) rfl g1) (R.op rfl (subI rfl (by omega) (by omega)) (R.op rfl (eltM (i := c.length - 1) (by omega) g2) ?_))))
        simp only [List.cons_append, List.nil_append]
        refine R.callv rfl rfl rfl (eq_ok _ _) rfl ?_
        rw [decide_eq_true rfl]
        refine R.iteT rfl (R.op rfl (slcL row_cells rfl (by simp; omega)) ?_)
        simp only [List.cons_append, List.nil_append]
        refine R.bindO (R.loop rfl q5) rfl ?_
        simp only [List.cons_append, List.nil_append]
        refine R.op rfl (slcL row_cells rfl (by simp)) (R.op rfl (lenI (n := ((c' ++ M').length : Nat)) (by simp)) (R.op rfl (slcM (i := c'.length) (j := (c' ++ M').length) rfl rfl (by simp) (by simp)) (R.op rfl (clrD (i := c'.length) (j := (c' ++ M').length) rfl rfl (by simp) (by simp)) ?_)))
        simp only [List.cons_append, List.nil_append]
        have hall : ∀ d ∈ ((c' ++ M').map el).take c'.length ++ List.replicate ((c' ++ M').length - c'.length) zel ++ ((c' ++ M').map el).drop (c' ++ M').length, d.cells.length = 5 := by
          intro d hd
          rcases List.mem_append.1 hd with hd | hd
          · rcases List.mem_append.1 hd with hd | hd
            · exact row_cells d (List.mem_of_mem_take hd)
            · rw [(List.mem_replicate.1 hd).2]; rfl
          · exact row_cells d (List.mem_of_mem_drop hd)
        refine R.op rfl (slcR hall rfl (by simp)) (R.op rfl (slcD (i := 0) (j := c'.length) hall rfl rfl (by simp) (by simp)) ?_)
        refine R.fin ?_
        simp only [atsD, atD]
        simp [row, List.take_append]
    · have hpe : p < e := by
        have := (srt_app.1 (hz ▸ hs)).2.2 p (by rw [hd]; simp) e (by simp); omega
      rcases outer69 hn hB hs t (c := c ++ [e]) (kk := kk + 1) (by rw [hz]; simp) (by simp; omega) (by
        refine List.pairwise_append.2 ⟨hc, List.pairwise_singleton _ _, fun x hx y hy => ?_⟩
        simp only [List.mem_singleton] at hy
        subst hy
        rw [hd] at hx hc
        rcases List.mem_append.1 hx with hx | hx
        · have := (List.pairwise_append.1 hc).2.2 x hx p (by simp); omega
        · simp only [List.mem_singleton] at hx; omega) ⟨c, e, rfl⟩ with ⟨c', r', q1, q2, q3, q4, q5⟩ | ⟨q1, q5⟩
      all_goals
        have step : R F b69 ([row z, ef, .int .i64 n, .bool false] ++ [.int .i64 kk]) .normal [.int .i64 (kk + 1)] := by
          subst hk
          refine R.op rfl (lssT (by omega)) (R.iteT rfl (R.op rfl (eltM (i := c.length) rfl g1) (R.op rfl (subI rfl (by omega) (by omega)) (R.op rfl (eltM (i := c.length - 1) (by omega) g2) ?_))))
          simp only [List.cons_append, List.nil_append]
          refine R.callv rfl rfl rfl (eq_ok _ _) rfl ?_
          rw [decide_eq_false h]
          exact R.iteF rfl (R.op rfl (addI rfl (by omega) (by omega)) (R.fin rfl))
      · exact .inl ⟨c', r', q1, q2, q3, q4, Lm q5 step rfl⟩
      · exact .inr ⟨q1, Lm q5 step rfl⟩
/-- what stays -/
theorem comp_ok {z : List Int} (hz : z ≠ []) (hB : z.length ≤ 1000) (hs : Srt z) : ∃ c r', c.Pairwise (· < ·) ∧ (∀ x, x ∈ c ↔ x ∈ z) ∧ c ≠ [] ∧ c.length ≤ z.length ∧ Cv F 69 [row z, ef] [row c, r'] := by
  cases z with
  | nil => exact absurd rfl hz
  | cons a t =>
    cases t with
    | nil => exact ⟨[a], row [a], List.pairwise_singleton _ _, fun x => Iff.rfl, hz, Nat.le_refl _, .tree rfl rfl (R.op rfl rfl (R.op rfl (lssT (by simp)) (R.iteT rfl (R.fin rfl))))⟩
    | cons b t =>
      have h2 : ¬ (((a :: b :: t).length : Int) < 2) := by simp; omega
      rcases outer69 (z := a :: b :: t) rfl hB hs (b :: t) (c := [a]) (kk := 1) rfl rfl (List.pairwise_singleton _ _) ⟨[], a, rfl⟩ with ⟨c', r', q1, q2, q3, q4, q5⟩ | ⟨q1, q5⟩
      · exact ⟨c', r', q1, q2, q3, q4, .tree rfl rfl (R.op rfl (lenI (by simp)) (R.op rfl (lssF (by omega)) (R.iteF rfl (R.bindP (R.loop rfl q5) (by simp)))))⟩
      · exact ⟨a :: b :: t, row (a :: b :: t), q1, fun x => Iff.rfl, hz, Nat.le_refl _, .tree rfl rfl (R.op rfl (lenI (by simp)) (R.op rfl (lssF (by omega)) (R.iteF rfl (R.bindO (R.loop rfl q5) rfl (R.fin rfl)))))⟩
/-! Normal. -/
def rowN : List Int → D
  | [] => .nil
  | l => row l
theorem rowN_ne {l : List Int} (h : l ≠ []) : rowN l = row l := by cases l with
  | nil => exact absurd rfl h
  | cons a r => rfl
def sv (d : D) : D := .agg [.int .i64 14, .int .i64 0, V.txt [], d, .nil]
theorem leaf_ok (a : Int) : Cv F 31 [el a] [el a, .int .i64 0] := (run_ok 60).2.2 _ _ _ (by kernel_rfl)
theorem lenN {l : List Int} : copD (.pop .len) [rowN l] = some (.int .i64 l.length) := by
  cases l with
  | nil => rfl
  | cons a r => exact lenI (by simp)
theorem eltN {l : List Int} {i : Nat} {ii a : Int} (hi : ii = i) (h : l[i]? = some a) : copD (.pop (.elt 5)) [rowN l, .int .i64 ii] = some (el a) := by
  rw [rowN_ne (by intro e; subst e; simp at h)]; exact eltM hi h
theorem catN {l : List Int} {a : Int} (h : l.length ≤ 1000) : copD (.pop (.cat 5 80 true)) [rowN l, .lst [el a]] = some (rowN (l ++ [a])) := by
  rw [rowN_ne (l := l ++ [a]) (by simp)]
  have h1 : Nat.ble ((l.length + 1) * 80) 140737488355328 = true := by rw [Nat.ble_eq]; omega
  have h2 : ([el a] : List D).all (rowOk 5 true) = true := rfl
  cases l with
  | nil => rfl
  | cons b r =>
    have h1' : Nat.ble ((((b :: r).map el).length + [el a].length) * 80) 140737488355328 = true := by simpa using h1
    have e : copD (.pop (.cat 5 80 true)) [rowN (b :: r), .lst [el a]] = (if ([el a] : List D).isEmpty then some (row (b :: r)) else if [el a].all (rowOk 5 true) && Nat.ble ((((b :: r).map el).length + [el a].length) * 80) 140737488355328 then some (.lst (((b :: r).map el) ++ [el a])) else none) := rfl
    rw [e, if_neg (by simp), if_pos (by rw [h2, h1']; rfl)]
    simp [row]
def b31 : T := match t31 with | .op _ _ (.op _ _ (.op _ _ (.op _ _ (.op _ _ (.call _ _ _ (.op _ _ (.ite _ _ (.call _ _ _ (.op _ _ (.op _ _ (.bind _ (.loop _ b) _ _))))))))))) => b | _ => default
theorem loop31 {l : List Int} (hl : l.length ≤ 1000) {e0 e1 e2 e3 e5 e6 e7 e8 e9 : D} : ∀ (t : List Int) {s : List Int} {kk : Int}, l = s ++ t → kk = s.length →
    L F b31 [e0, e1, e2, e3, rowN l, e5, e6, e7, e8, e9, .int .i64 l.length] [.int .i64 kk, rowN s] (.exit 0) [rowN l]
  | [], s, kk, h, hk => by
    simp only [List.append_nil] at h
    subst h
    exact .out (R.op rfl (lssF (by omega)) (R.iteF rfl (R.fin rfl))) (by simp)
  | a :: t, s, kk, h, hk => by
    have hlen : s.length + 1 + t.length = l.length := by rw [h]; simp; omega
    have g : l[s.length]? = some a := by rw [h]; simp
    refine Lm (loop31 hl t (s := s ++ [a]) (kk := kk + 1) (by rw [h]; simp) (by simp; omega)) ?_ rfl
    refine R.op rfl (lssT (by omega)) (R.iteT rfl (R.op rfl (eltN (i := s.length) hk g) ?_))
    simp only [List.cons_append, List.nil_append]
    iterate 5 refine R.op rfl rfl ?_
    simp only [List.cons_append, List.nil_append]
    refine R.call rfl (leaf_ok a) rfl ?_
    simp only [List.cons_append, List.nil_append]
    iterate 5 refine R.op rfl rfl ?_
    simp only [List.cons_append, List.nil_append]
    refine R.op rfl (neqF rfl) (R.iteF rfl (R.op rfl rfl (R.op rfl (catN (by omega)) (R.op rfl (addI rfl (by omega) (by omega)) (R.fin rfl)))))
theorem within_ok {l : List Int} (hl : l.length ≤ 30) : ∃ c, c.Pairwise (· < ·) ∧ (∀ x, x ∈ c ↔ x ∈ l) ∧ c.length ≤ l.length ∧ Cv F 31 [sv (rowN l)] [sv (rowN c), .int .i64 0] := by
  have start : ∀ {c : List Int}, (∃ r', R F (match t31 with | .op _ _ (.op _ _ (.op _ _ (.op _ _ (.op _ _ (.call _ _ _ (.op _ _ (.ite _ _ (.call _ _ _ (.op _ _ (.op _ _ (.bind _ _ _ k))))))))))) => k | _ => default)
      [sv (rowN l), .int .i64 14, .int .i64 0, V.txt [], rowN l, .nil, .bool true, .bool false, .nil, .nil, .int .i64 l.length, rowN l] .ret r' ∧ r' = [sv (rowN c), .int .i64 0]) → Cv F 31 [sv (rowN l)] [sv (rowN c), .int .i64 0] := by
    rintro c ⟨r', h, rfl⟩
    have ho : ([.int .i64 14, .int .i64 0, V.txt [], rowN l, .nil] : List D).all D.one = true := by cases l <;> rfl
    have h67 : Cv F 67 [.int .i64 14] [.bool true] := (run_ok 20).2.2 _ _ _ (by kernel_rfl)
    have h66 : Cv F 66 [.nil] [.nil] := (run_ok 20).2.2 _ _ _ (by kernel_rfl)
    refine .tree rfl rfl ?_
    refine R.op rfl (cellI rfl rfl ho) (R.op rfl (cellI rfl rfl ho) (R.op rfl (cellI rfl rfl ho) (R.op rfl (cellI rfl rfl ho) (R.op rfl (cellI rfl rfl ho) ?_))))
    simp only [List.cons_append, List.nil_append]
    refine R.call rfl h67 rfl (R.op rfl rfl (R.iteF rfl (R.call rfl h66 rfl (R.op rfl rfl (R.op rfl lenN ?_)))))
    simp only [List.cons_append, List.nil_append]
    exact R.bindO (R.loop rfl (loop31 (by omega) l (s := []) (kk := 0) rfl rfl)) rfl h
  by_cases h0 : l = []
  · subst h0
    refine ⟨[], List.Pairwise.nil, fun x => Iff.rfl, Nat.le_refl _, start ⟨_, (run_ok 60).1 _ _ _ _ (by kernel_rfl), rfl⟩⟩
  · obtain ⟨z, p, s, c1⟩ := sort_ok hl
    have hz : z ≠ [] := by intro e; subst e; exact h0 (by simpa using p.length_eq.symm)
    have lz := p.length_eq
    obtain ⟨c, r', q1, q2, q3, q4, c2⟩ := comp_ok hz (by omega) s
    refine ⟨c, q1, fun x => (q2 x).trans p.mem_iff, by omega, start ⟨_, ?_, rfl⟩⟩
    rw [rowN_ne h0, rowN_ne q3]
    refine R.bindO (qs := [row c]) (R.op rfl (eqlT rfl) (R.iteT rfl (R.call rfl c1 rfl (R.call rfl c2 rfl (R.op rfl rfl (R.fin rfl)))))) rfl ?_
    exact R.op rfl rfl (R.fin rfl)
theorem normal_ok {l : List Int} (hl : l.length ≤ 30) : ∃ c, c.Pairwise (· < ·) ∧ (∀ x, x ∈ c ↔ x ∈ l) ∧ c.length ≤ l.length ∧ Cv F 13 [sv (rowN l)] [sv (rowN c), .int .i64 0] := by
  obtain ⟨c, q1, q2, q3, h⟩ := within_ok hl
  refine ⟨c, q1, q2, q3, .tree rfl rfl ?_⟩
  have ho : ∀ l : List Int, ([.int .i64 14, .int .i64 0, V.txt [], rowN l, .nil] : List D).all D.one = true := fun l => by cases l <;> rfl
  refine R.op rfl (cellI rfl rfl (ho _)) (R.op rfl (cellI rfl rfl (ho _)) (R.op rfl (cellI rfl rfl (ho _)) (R.op rfl (cellI rfl rfl (ho _)) (R.op rfl (cellI rfl rfl (ho _)) ?_))))
  simp only [List.cons_append, List.nil_append]
  refine R.call rfl h rfl ?_
  simp only [List.cons_append, List.nil_append]
  exact R.op rfl (cellI rfl rfl (ho _)) (R.op rfl (cellI rfl rfl (ho _)) (R.op rfl (cellI rfl rfl (ho _)) (R.op rfl (cellI rfl rfl (ho _)) (R.op rfl (cellI rfl rfl (ho _)) (R.fin rfl)))))
/-- one list for what is in it -/
theorem strict_eq : ∀ {a b : List Int}, a.Pairwise (· < ·) → b.Pairwise (· < ·) → (∀ x, x ∈ a ↔ x ∈ b) → a = b
  | [], [], _, _, _ => rfl
  | [], y :: b, _, _, h => by have := (h y).2 (by simp); simp at this
  | x :: a, [], _, _, h => by have := (h x).1 (by simp); simp at this
  | x :: a, y :: b, ha, hb, h => by
    obtain ⟨a1, a2⟩ := List.pairwise_cons.1 ha
    obtain ⟨b1, b2⟩ := List.pairwise_cons.1 hb
    have e : x = y := by
      rcases List.mem_cons.1 ((h x).1 (by simp)) with e | e
      · exact e
      · rcases List.mem_cons.1 ((h y).2 (by simp)) with e' | e'
        · exact e'.symm
        · have h1 := b1 x e; have h2 := a1 y e'; omega
    subst e
    rw [strict_eq a2 b2 fun z => ?_]
    constructor
    · intro hz
      rcases List.mem_cons.1 ((h z).1 (List.mem_cons_of_mem _ hz)) with e | e
      · subst e; have := a1 z hz; omega
      · exact e
    · intro hz
      rcases List.mem_cons.1 ((h z).2 (List.mem_cons_of_mem _ hz)) with e | e
      · subst e; have := b1 z hz; omega
      · exact e
end Go.Proofs.Ytjofhegodknmaaa.St
/-! OrderStays: what is in order; what is the same; the law. -/
namespace Go.Proofs.Ytjofhegodknmaaa.St
open Go Go.RowKit
open W
open V (D)
theorem ho (l : List Int) : ([.int .i64 14, .int .i64 0, V.txt [], rowN l, .nil] : List D).all D.one = true := by cases l <;> rfl
theorem mkI (l : List Int) : copD (.pop .mkAgg) [.int .i64 14, .int .i64 0, V.txt [], rowN l, .nil] = some (sv (rowN l)) := by cases l <;> rfl
/-! Held against itself. -/
def b97 : T := match t97 with | .op _ _ (.bind _ (.loop _ b) _ _) => b | _ => default
theorem loop97 {c : List Int} (hc : c.length ≤ 1000) : ∀ (t : List Int) {s : List Int} {kk : Int}, c = s ++ t → kk = s.length → L F b97 [rowN c, rowN c, cf, .int .i64 c.length] [.int .i64 kk] (.exit 0) []
  | [], s, kk, h, hk => by
    simp only [List.append_nil] at h
    subst h
    exact .out (R.op rfl (lssF (by omega)) (R.iteF rfl (R.fin rfl))) (by simp)
  | a :: t, s, kk, h, hk => by
    have hlen : s.length + 1 + t.length = c.length := by rw [h]; simp; omega
    have g : c[s.length]? = some a := by rw [h]; simp
    refine Lm (loop97 hc t (s := s ++ [a]) (kk := kk + 1) (by rw [h]; simp) (by simp; omega)) ?_ rfl
    refine R.op rfl (lssT (by omega)) (R.iteT rfl (R.op rfl (eltN (i := s.length) hk g) ?_))
    simp only [List.cons_append, List.nil_append]
    iterate 5 refine R.op rfl rfl ?_
    simp only [List.cons_append, List.nil_append]
    refine R.op rfl lenN (R.op rfl (geqF (by omega)) (R.iteF rfl (R.op rfl (eltN (i := s.length) hk g) ?_)))
    simp only [List.cons_append, List.nil_append]
    iterate 5 refine R.op rfl rfl ?_
    simp only [List.cons_append, List.nil_append]
    exact R.callv rfl rfl rfl (cmp_ok a a) rfl (R.op rfl (neqF (cv_eq.2 rfl)) (R.iteF rfl (R.op rfl (addI rfl (by omega) (by omega)) (R.fin rfl))))
theorem cmps_ok {c : List Int} (hc : c.length ≤ 1000) : Cv F 29 [sv (rowN c), sv (rowN c)] [.int .i64 0] := by
  have h97 : Cv F 97 [rowN c, rowN c, cf] [.int .i64 0] := .tree rfl rfl (R.op rfl lenN (R.bindO (R.loop rfl (loop97 hc c (s := []) rfl rfl)) rfl (R.op rfl lenN (R.op rfl (lssF (Int.le_refl _)) (R.iteF rfl (R.fin rfl))))))
  have h64 : Cv F 64 [rowN c, rowN c] [.int .i64 0] := .tree rfl rfl (R.call rfl h97 rfl (R.fin rfl))
  have h60 : Cv F 60 [.int .i64 14, .int .i64 14] [.int .i64 0] := (run_ok 20).2.2 _ _ _ (by kernel_rfl)
  refine .tree rfl rfl ?_
  iterate 5 refine R.op rfl (cellI rfl rfl (ho _)) ?_
  simp only [List.cons_append, List.nil_append]
  iterate 5 refine R.op rfl (cellI rfl rfl (ho _)) ?_
  simp only [List.cons_append, List.nil_append]
  refine R.call rfl h60 rfl (R.op rfl (neqF rfl) (R.iteF rfl ?_))
  simp only [List.cons_append, List.nil_append]
  refine R.bindO (qs := [.bool false]) ((run_ok 30).1 _ _ _ _ (by kernel_rfl)) rfl (R.iteF rfl (R.op rfl (eqlF (by decide)) (R.iteF rfl ?_)))
  simp only [List.cons_append, List.nil_append]
  refine R.bindO (qs := [.bool false]) ((run_ok 30).1 _ _ _ _ (by kernel_rfl)) rfl (R.iteF rfl ?_)
  simp only [List.cons_append, List.nil_append]
  refine R.bindO (qs := [.bool true]) ((run_ok 30).1 _ _ _ _ (by kernel_rfl)) rfl (R.iteT rfl ?_)
  exact R.call rfl h64 rfl (R.fin rfl)
theorem is_ok {c : List Int} (hc : c.length ≤ 1000) (h : Cv F 13 [sv (rowN c)] [sv (rowN c), .int .i64 0]) : Cv F 14 [sv (rowN c)] [.bool true] := by
  refine .tree rfl rfl ?_
  iterate 5 refine R.op rfl (cellI rfl rfl (ho _)) ?_
  simp only [List.cons_append, List.nil_append]
  refine R.call rfl h rfl ?_
  simp only [List.cons_append, List.nil_append]
  iterate 5 refine R.op rfl (cellI rfl rfl (ho _)) ?_
  simp only [List.cons_append, List.nil_append]
  exact R.bindO (qs := [.bool true]) (R.op rfl (eqlT rfl) (R.iteT rfl (R.call rfl (cmps_ok hc) rfl (R.op rfl (eqlT rfl) (R.fin rfl))))) rfl (R.fin rfl)
theorem twin1 (a : Int) : Cv F 11 [el a, el a] [.bool true] := by
  refine .tree rfl rfl ?_
  iterate 10 refine R.op rfl rfl ?_
  simp only [List.cons_append, List.nil_append]
  refine R.op rfl (neqF rfl) (R.iteF rfl (R.op rfl (neqF rfl) (R.iteF rfl ?_)))
  simp only [List.cons_append, List.nil_append]
  exact (run_ok 60).1 _ _ _ _ (by kernel_rfl)
def b11 : T := match t11 with | .op _ _ (.op _ _ (.op _ _ (.op _ _ (.op _ _ (.op _ _ (.op _ _ (.op _ _ (.op _ _ (.op _ _ (.op _ _ (.ite _ _ (.op _ _ (.ite _ _ (.op _ _ (.ite _ _ (.op _ _ (.op _ _ (.op _ _ (.ite _ _ (.op _ _ (.op _ _ (.op _ _ (.ite _ _ (.bind _ _ _ (.bind _ (.loop _ b) _ _))))))))))))))))))))))))) => b | _ => default
theorem loop11 {c : List Int} (hc : c.length ≤ 1000) {e0 e1 e2 e3 e4 e6 e7 e8 e9 e11 e12 e13 e14 e16 e17 e18 e19 e20 : D} : ∀ (t : List Int) {s : List Int} {kk : Int}, c = s ++ t → kk = s.length →
    L F b11 [e0, e1, e2, e3, e4, rowN c, e6, e7, e8, e9, rowN c, e11, e12, e13, e14, .int .i64 c.length, e16, e17, e18, e19, e20] [.int .i64 kk] (.exit 2) []
  | [], s, kk, h, hk => by
    simp only [List.append_nil] at h
    subst h
    exact .out (R.op rfl (lssF (by omega)) (R.iteF rfl (R.fin rfl))) (by simp)
  | a :: t, s, kk, h, hk => by
    have hlen : s.length + 1 + t.length = c.length := by rw [h]; simp; omega
    have g : c[s.length]? = some a := by rw [h]; simp
    refine Lm (loop11 hc t (s := s ++ [a]) (kk := kk + 1) (by rw [h]; simp) (by simp; omega)) ?_ rfl
    refine R.op rfl (lssT (by omega)) (R.iteT rfl (R.op rfl (eltN (i := s.length) hk g) (R.op rfl (eltN (i := s.length) hk g) (R.call rfl (twin1 a) rfl (R.op rfl rfl (R.iteF rfl (R.op rfl (addI rfl (by omega) (by omega)) (R.fin rfl))))))))
theorem ntxt : copD (.bin .neq) [V.txt [], V.txt []] = some (.bool false) := by kernel_rfl
theorem twins_ok {c : List Int} (hc : c.length ≤ 1000) : Cv F 11 [sv (rowN c), sv (rowN c)] [.bool true] := by
  refine .tree rfl rfl ?_
  iterate 5 refine R.op rfl (cellI rfl rfl (ho _)) ?_
  simp only [List.cons_append, List.nil_append]
  iterate 5 refine R.op rfl (cellI rfl rfl (ho _)) ?_
  simp only [List.cons_append, List.nil_append]
  refine R.op rfl (neqF rfl) (R.iteF rfl (R.op rfl (neqF rfl) (R.iteF rfl (R.op rfl ntxt (R.iteF rfl ?_)))))
  simp only [List.cons_append, List.nil_append]
  refine R.op rfl lenN (R.op rfl lenN (R.op rfl (neqF rfl) (R.iteF rfl (R.op rfl rfl (R.op rfl rfl (R.op rfl (neqF rfl) (R.iteF rfl ?_)))))))
  simp only [List.cons_append, List.nil_append]
  refine R.bindO (qs := []) (R.loop rfl (.out (R.op rfl (lssF (by decide)) (R.iteF rfl (R.fin rfl))) (by simp))) rfl ?_
  exact R.bindO (R.loop rfl (loop11 hc c (s := []) rfl rfl)) rfl (R.fin rfl)
theorem begun_ok : Cv F 12 [] [.bool true] := (run_ok 300).2.2 _ _ _ (by kernel_rfl)
/-! The law. -/
theorem remI {m n : Nat} (h : 0 < n) : copD (.bin .rem) [.int .i64 m, .int .i64 n] = some (.int .i64 (m % n : Nat)) := by
  have e : ¬ n = 0 := by omega
  have e2 : Int.tmod (m : Int) n = ((m % n : Nat) : Int) := by rw [Int.tmod_eq_emod_of_nonneg (by omega)]; rfl
  simp [copD, binD, V.shiftOp, V.cmpI, V.ariI, e, e2]
theorem catR {x y : List Int} (h : x.length + y.length ≤ 1000) : copD (.pop (.cat 5 80 true)) [row x, row y] = some (row (x ++ y)) := by
  have e : copD (.pop (.cat 5 80 true)) [row x, row y] = (if (y.map el).isEmpty then some (row x) else if (y.map el).all (rowOk 5 true) && Nat.ble (((x.map el).length + (y.map el).length) * 80) 140737488355328 then some (.lst ((x.map el) ++ (y.map el))) else none) := rfl
  have h2 : (y.map el).all (rowOk 5 true) = true := List.all_eq_true.2 fun d hd => by obtain ⟨a, _, rfl⟩ := List.mem_map.1 hd; rfl
  have h1 : Nat.ble (((x.map el).length + (y.map el).length) * 80) 140737488355328 = true := by rw [Nat.ble_eq]; simp; omega
  rw [e]
  cases y with
  | nil => simp [row]
  | cons b r => rw [if_neg (by simp), if_pos (by rw [h2, h1]; rfl)]; simp [row]
theorem catZ {y : List Int} (h : y.length ≤ 1000) : copD (.pop (.cat 5 80 true)) [.nil, rowN y] = some (rowN y) := by
  cases y with
  | nil => rfl
  | cons b r =>
    have e : copD (.pop (.cat 5 80 true)) [.nil, rowN (b :: r)] = (if ((b :: r).map el).isEmpty then some .nil else if ((b :: r).map el).all (rowOk 5 true) && Nat.ble ((0 + ((b :: r).map el).length) * 80) 140737488355328 then some (.lst ([] ++ ((b :: r).map el))) else none) := rfl
    have h2 : ((b :: r).map el).all (rowOk 5 true) = true := List.all_eq_true.2 fun d hd => by obtain ⟨a, _, rfl⟩ := List.mem_map.1 hd; rfl
    have h1 : Nat.ble ((0 + ((b :: r).map el).length) * 80) 140737488355328 = true := by rw [Nat.ble_eq]; simp at *; omega
    rw [e, if_neg (by simp), if_pos (by rw [h2, h1]; rfl)]
    rfl
/-- a row of numbers, as it is handed in -/
def IsRow (k : IntKind) (l : List Int) (d : D) : Prop := d = .nil ∧ l = [] ∨ d = .lst (l.map (.int k))
theorem IsRow.len {k : IntKind} {l : List Int} {d : D} (h : IsRow k l d) : copD (.pop .len) [d] = some (.int .i64 l.length) := by
  rcases h with ⟨rfl, rfl⟩ | rfl
  · rfl
  · exact lenI (by simp)
theorem IsRow.get {k : IntKind} {l : List Int} {d : D} (h : IsRow k l d) {i : Nat} {ii a : Int} (hi : ii = i) (ha : l[i]? = some a) : copD (.pop (.elt 1)) [d, .int .i64 ii] = some (.int k a) := by
  rcases h with ⟨rfl, rfl⟩ | rfl
  · simp at ha
  · exact eltI hi (by simp [ha]) rfl
def b4 : T := match t4 with | .call _ _ _ (.op _ _ (.ite _ _ (.op _ _ (.op _ _ (.ite _ _ (.op _ _ (.op _ _ (.ite _ _ (.bind _ (.loop _ b) _ _))))))))) => b | _ => default
def c4 : T := match t4 with | .call _ _ _ (.op _ _ (.ite _ _ (.op _ _ (.op _ _ (.ite _ _ (.op _ _ (.op _ _ (.ite _ _ (.bind _ _ _ (.op _ _ (.bind _ (.loop _ b) _ _))))))))))) => b | _ => default
theorem loop4 {l : List Int} {d0 e1 e2 e3 e5 e6 e7 : D} (h0 : IsRow .i8 l d0) (hl : l.length ≤ 10) (hr : ∀ a ∈ l, -128 ≤ a ∧ a ≤ 127) : ∀ (t : List Int) {s : List Int} {kk : Int}, l = s ++ t → kk = s.length →
    L F b4 [d0, e1, e2, e3, .int .i64 l.length, e5, e6, e7] [.int .i64 kk, rowN s] (.exit 0) [rowN l]
  | [], s, kk, h, hk => by
    simp only [List.append_nil] at h
    subst h
    exact .out (R.op rfl (lssF (by omega)) (R.iteF rfl (R.fin rfl))) (by simp)
  | a :: t, s, kk, h, hk => by
    have hlen : s.length + 1 + t.length = l.length := by rw [h]; simp; omega
    have g : l[s.length]? = some a := by rw [h]; simp
    have ha := hr a (by rw [h]; simp)
    have hw : copD (.conv .i64) [.int .i8 a] = some (.int .i64 a) := by
      simp only [copD, Option.some.injEq, D.int.injEq, true_and]
      exact wrap64 (by omega) (by omega)
    refine Lm (loop4 h0 hl hr t (s := s ++ [a]) (kk := kk + 1) (by rw [h]; simp) (by simp; omega)) ?_ rfl
    refine R.op rfl (lssT (by omega)) (R.iteT rfl (R.op rfl (h0.get (i := s.length) hk g) (R.op rfl rfl (R.op rfl hw (R.op (d := el a) rfl rfl (R.op rfl rfl (R.op rfl (catN (by omega)) ?_)))))))
    exact R.op rfl (addI rfl (by omega) (by omega)) (R.fin rfl)
theorem loop4b {l h : List Int} {d1 e0 e2 e3 e4 e5 e7 e8 e9 : D} (h1 : IsRow .u8 h d1) (hh : h.length ≤ 20) (hr : ∀ a ∈ h, 0 ≤ a ∧ a ≤ 255) : ∀ (t : List Int) {s b : List Int} {kk : Int}, h = s ++ t → kk = s.length → (∀ x, x ∈ b ↔ x ∈ l) → b.length + t.length ≤ 30 →
    ∃ b', (∀ x, x ∈ b' ↔ x ∈ l) ∧ b'.length ≤ 30 ∧ L F c4 [e0, d1, e2, e3, e4, e5, .int .i64 h.length, e7, e8, e9] [.int .i64 kk, rowN b] (.exit 2) [rowN b']
  | [], s, b, kk, h0, hk, hb, hl => by
    simp only [List.append_nil] at h0
    subst h0
    exact ⟨b, hb, by simpa using hl, .out (R.op rfl (lssF (by omega)) (R.iteF rfl (R.fin rfl))) (by simp)⟩
  | q :: t, s, b, kk, h0, hk, hb, hl => by
    have hlen : s.length + 1 + t.length = h.length := by rw [h0]; simp; omega
    have g : h[s.length]? = some q := by rw [h0]; simp
    have hq := hr q (by rw [h0]; simp)
    obtain ⟨m, rfl⟩ : ∃ m : Nat, q = m := ⟨q.toNat, by omega⟩
    simp only [List.length_cons] at hl
    by_cases hz : b = []
    · subst hz
      refine ⟨[], hb, by simp, .out ?_ (by simp)⟩
      exact R.op rfl (lssT (by omega)) (R.iteT rfl (R.op rfl lenN (R.op rfl (gtrF (by simp)) (R.iteF rfl (R.fin rfl)))))
    · have hpos : 0 < b.length := List.length_pos_iff.2 hz
      obtain ⟨k, hk'⟩ : ∃ k, k = m % b.length := ⟨_, rfl⟩
      have hkl : k < b.length := by rw [hk']; exact Nat.mod_lt _ hpos
      obtain ⟨x, hx⟩ : ∃ x, b[k]? = some x := ⟨b[k], List.getElem?_eq_getElem hkl⟩
      obtain ⟨b', q1, q2, q3⟩ := loop4b (l := l) (e0 := e0) (e2 := e2) (e3 := e3) (e4 := e4) (e5 := e5) (e7 := e7) (e8 := e8) (e9 := e9) h1 hh hr t (s := s ++ [(m : Int)]) (b := b.drop k ++ b.take k ++ [x]) (kk := kk + 1) (by rw [h0]; simp) (by simp; omega) (fun y => by
        rw [← hb]
        have hd := List.take_append_drop k b
        constructor
        · intro hy
          rcases List.mem_append.1 hy with hy | hy
          · rcases List.mem_append.1 hy with hy | hy
            · exact List.mem_of_mem_drop hy
            · exact List.mem_of_mem_take hy
          · simp only [List.mem_singleton] at hy; subst hy; exact List.mem_of_getElem? hx
        · intro hy
          rw [← hd] at hy
          rcases List.mem_append.1 hy with hy | hy <;> simp [hy]) (by simp; omega)
      refine ⟨b', q1, q2, ?_⟩
      rw [rowN_ne (l := b.drop k ++ b.take k ++ [x]) (by simp)] at q3
      rw [rowN_ne hz]
      have hw : copD (.conv .i64) [.int .u8 m] = some (.int .i64 m) := by
        simp only [copD, Option.some.injEq, D.int.injEq, true_and]
        exact wrap64 (by omega) (by omega)
      have hrem := remI (m := m) hpos
      rw [← hk'] at hrem
      refine Lm q3 ?_ rfl
      refine R.op rfl (lssT (by omega)) (R.iteT rfl (R.op rfl (lenI (n := (b.length : Nat)) (by simp)) (R.op rfl (gtrT (by omega)) (R.iteT rfl ?_))))
      simp only [List.cons_append, List.nil_append]
      refine R.op rfl (h1.get (i := s.length) hk g) (R.op rfl rfl (R.op rfl hw (R.op rfl hrem ?_)))
      simp only [List.cons_append, List.nil_append]
      refine R.op rfl (slcL row_cells rfl (by simp; omega)) (R.op rfl (slcM (i := k) (j := b.length) rfl rfl (by omega) (by omega)) (R.op (d := row (b.drop k)) rfl ?_ ?_))
      · have := catR (x := []) (y := (b.take b.length).drop k) (by simp; omega)
        rw [List.nil_append, List.take_length] at this
        rw [List.take_length]
        exact this
      simp only [List.cons_append, List.nil_append]
      refine R.op rfl (slcR row_cells rfl (by simp; omega)) (R.op rfl (slcM (i := 0) (j := k) rfl rfl (by omega) (by omega)) (R.op rfl (catR (by simp; omega)) (R.op rfl (eltM (i := k) rfl hx) ?_)))
      simp only [List.cons_append, List.nil_append, List.drop_zero]
      iterate 5 refine R.op rfl rfl ?_
      simp only [List.cons_append, List.nil_append]
      refine R.op (d := row [x]) rfl rfl (R.op rfl (catR (by simp; omega)) ?_)
      exact R.op rfl (addI rfl (by omega) (by omega)) (R.fin rfl)
end Go.Proofs.Ytjofhegodknmaaa.St
/-! OrderStays: the law's function. -/
namespace Go.Proofs.Ytjofhegodknmaaa.St
open Go Go.RowKit
open W
open V (D)
theorem cell3 (c : List Int) : copD (.pop (.cell 3 5)) [sv (rowN c)] = some (rowN c) := cellI rfl rfl (ho _)
def l4 : T := match t4 with | .call _ _ _ (.op _ _ (.ite _ _ (.op _ _ (.op _ _ (.ite _ _ (.op _ _ (.op _ _ (.ite _ _ (.bind _ _ _ (.op _ _ (.bind _ _ _ k))))))))))) => k | _ => default
def k4 : T := match l4 with | .op _ _ (.call _ _ _ (.op _ _ (.op _ _ (.op _ _ (.op _ _ (.op _ _ (.op _ _ (.call _ _ _ (.op _ _ (.op _ _ (.op _ _ (.op _ _ (.op _ _ (.call _ _ _ (.op _ _ (.op _ _ (.op _ _ (.op _ _ (.op _ _ (.op _ _ (.ite _ _ (.op _ _ (.ite _ _ (.op _ _ (.ite _ _ (.call _ _ _ (.op _ _ (.ite _ _ (.call _ _ _ (.op _ _ (.ite _ _ (.call _ _ _ (.op _ _ (.ite _ _ (.bind _ (.loop _ b) _ _))))))))))))))))))))))))))))))))))) => b | _ => default
theorem loopk {c : List Int} {env : List D} (h17 : env[17]? = some (rowN c)) (hlen : env.length = 43) (hc : c.length ≤ 1000) (hs : c.Pairwise (· < ·)) : ∀ (n : Nat) {k : Nat} {kk : Int}, c.length - k ≤ n → kk = k → 1 ≤ k → L F k4 env [.int .i64 kk] (.exit 4) [] := by
  have get : ∀ (q : List D), (env ++ q)[17]? = some (rowN c) := fun q => by rw [List.getElem?_append_left (by omega)]; exact h17
  have nw : ∀ (q : List D) (i m : Nat), m = 43 + i → (env ++ q)[m]? = q[i]? := fun q i m h => by
    subst h; rw [List.getElem?_append_right (by omega)]; congr 1; omega
  have a1 : ∀ (q : List D), atsD (env ++ q) [.v 17] = some [rowN c] := fun q => by simp [atsD, atD, get q]
  have a2 : ∀ (q : List D) (i : Nat) (d : D), q[i]? = some d → atsD (env ++ q) [.v 17, .v (43 + i)] = some [rowN c, d] := fun q i d h => by simp [atsD, atD, get q, nw q i _ rfl, h]
  have a3 : ∀ (q : List D) (i j : Nat) (d e : D), q[i]? = some d → q[j]? = some e → atsD (env ++ q) [.v (43 + i), .v (43 + j)] = some [d, e] := fun q i j d e h h' => by simp [atsD, atD, nw q i _ rfl, nw q j _ rfl, h, h']
  have a4 : ∀ (q : List D) (i : Nat) (d : D), q[i]? = some d → atsD (env ++ q) [.v (43 + i)] = some [d] := fun q i d h => by simp [atsD, atD, nw q i _ rfl, h]
  have a5 : ∀ (q : List D) (i : Nat) (d e : D), q[i]? = some d → atsD (env ++ q) [.v (43 + i), .c e] = some [d, e] := fun q i d e h => by simp [atsD, atD, nw q i _ rfl, h]
  have a6 : ∀ (q : List D) (i : Nat) (d : D), q[i]? = some d → atD (env ++ q) (.v (43 + i)) = some d := fun q i d h => by simp [atD, nw q i _ rfl, h]
  intro n
  induction n with
  | zero =>
    intro k kk h0 hk h1
    refine .out ?_ (by simp)
    refine R.op (a1 _) lenN ?_
    rw [List.append_assoc]
    refine R.op (a3 _ 0 1 _ _ rfl rfl) (lssF (by omega)) ?_
    rw [List.append_assoc]
    exact R.iteF (a6 _ 2 _ rfl) (R.fin rfl)
  | succ n ih =>
    intro k kk h0 hk h1
    by_cases hl : c.length ≤ k
    · refine .out ?_ (by simp)
      refine R.op (a1 _) lenN ?_
      rw [List.append_assoc]
      refine R.op (a3 _ 0 1 _ _ rfl rfl) (lssF (by omega)) ?_
      rw [List.append_assoc]
      exact R.iteF (a6 _ 2 _ rfl) (R.fin rfl)
    · obtain ⟨x, hx⟩ : ∃ x, c[k]? = some x := ⟨c[k], List.getElem?_eq_getElem (by omega)⟩
      obtain ⟨y, hy⟩ : ∃ y, c[k - 1]? = some y := ⟨c[k - 1], List.getElem?_eq_getElem (by omega)⟩
      have hxy : y < x := by
        have := (List.pairwise_iff_getElem.1 hs) (k - 1) k (by omega) (by omega) (by omega)
        obtain ⟨h3, rfl⟩ := List.getElem?_eq_some_iff.1 hx
        obtain ⟨h4, rfl⟩ := List.getElem?_eq_some_iff.1 hy
        exact this
      refine Lm (ih (k := k + 1) (kk := kk + 1) (by omega) (by omega) (by omega)) ?_ rfl
      refine R.op (a1 _) lenN ?_
      rw [List.append_assoc]
      refine R.op (a3 _ 0 1 _ _ rfl rfl) (lssT (by omega)) ?_
      rw [List.append_assoc]
      refine R.iteT (a6 _ 2 _ rfl) ?_
      refine R.op (a5 _ 0 _ _ rfl) (subI rfl (by omega) (by omega)) ?_
      rw [List.append_assoc]
      refine R.op (a2 _ 3 _ rfl) (eltN (i := k - 1) (by omega) hy) ?_
      rw [List.append_assoc]
      refine R.op (d := .int .i64 y) (a4 _ 4 _ rfl) rfl ?_
      rw [List.append_assoc]
      refine R.op (a2 _ 0 _ rfl) (eltN (i := k) (by omega) hx) ?_
      rw [List.append_assoc]
      refine R.op (d := .int .i64 x) (a4 _ 6 _ rfl) rfl ?_
      rw [List.append_assoc]
      refine R.op (a3 _ 5 7 _ _ rfl rfl) (geqF hxy) ?_
      rw [List.append_assoc]
      refine R.iteF (a6 _ 8 _ rfl) ?_
      refine R.op (a5 _ 0 _ _ rfl) (addI rfl (by omega) (by omega)) ?_
      rw [List.append_assoc]
      exact R.fin (a4 _ 9 _ rfl)
theorem law_ok {l h : List Int} {d0 d1 : D} (h0 : IsRow .i8 l d0) (h1 : IsRow .u8 h d1) (r0 : ∀ a ∈ l, -128 ≤ a ∧ a ≤ 127) (r1 : ∀ a ∈ h, 0 ≤ a ∧ a ≤ 255) : Cv F 4 [d0, d1] [.bool true] := by
  refine .tree rfl rfl (R.call rfl begun_ok rfl (R.op rfl rfl (R.iteF rfl (R.op rfl h0.len ?_))))
  simp only [List.cons_append, List.nil_append]
  by_cases c1 : 10 < l.length
  · exact R.op rfl (gtrT (by omega)) (R.iteT rfl (R.fin rfl))
  refine R.op rfl (gtrF (by omega)) (R.iteF rfl (R.op rfl h1.len ?_))
  simp only [List.cons_append, List.nil_append]
  by_cases c2 : 20 < h.length
  · exact R.op rfl (gtrT (by omega)) (R.iteT rfl (R.fin rfl))
  refine R.op rfl (gtrF (by omega)) (R.iteF rfl ?_)
  simp only [List.cons_append, List.nil_append]
  refine R.bindO (R.loop rfl (loop4 h0 (by omega) r0 l (s := []) (kk := 0) rfl rfl)) rfl ?_
  simp only [List.cons_append, List.nil_append]
  refine R.op rfl (catZ (by omega)) ?_
  simp only [List.cons_append, List.nil_append]
  obtain ⟨b, b1, b2, b3⟩ := loop4b (l := l) (h := h) (d1 := d1) (e0 := d0) (e2 := .bool true) (e3 := .bool false) (e4 := .int .i64 l.length) (e5 := .bool false) (e7 := .bool false) (e8 := rowN l) (e9 := rowN l) h1 (by omega) r1 h (s := []) (b := l) (kk := 0) rfl rfl (fun x => Iff.rfl) (by omega)
  refine R.bindO (R.loop rfl b3) rfl ?_
  simp only [List.cons_append, List.nil_append]
  obtain ⟨c, q1, q2, q3, q4⟩ := normal_ok (l := l) (by omega)
  obtain ⟨c', p1, p2, p3, p4⟩ := normal_ok (l := b) b2
  obtain rfl : c' = c := strict_eq p1 q1 fun x => (p2 x).trans ((b1 x).trans (q2 x).symm)
  obtain ⟨c'', o1, o2, o3, o4⟩ := normal_ok (l := c') (by omega)
  obtain rfl : c'' = c' := strict_eq o1 q1 o2
  refine R.op rfl (mkI l) (R.call rfl q4 rfl ?_)
  simp only [List.cons_append, List.nil_append]
  iterate 5 refine R.op rfl (cellI rfl rfl (ho _)) ?_
  simp only [List.cons_append, List.nil_append]
  refine R.op rfl (mkI b) (R.call rfl p4 rfl ?_)
  simp only [List.cons_append, List.nil_append]
  iterate 5 refine R.op rfl (cellI rfl rfl (ho _)) ?_
  simp only [List.cons_append, List.nil_append]
  refine R.call rfl o4 rfl ?_
  simp only [List.cons_append, List.nil_append]
  iterate 5 refine R.op rfl (cellI rfl rfl (ho _)) ?_
  simp only [List.cons_append, List.nil_append]
  have hc : c''.length ≤ 1000 := by omega
  refine R.op rfl (neqF rfl) (R.iteF rfl (R.op rfl (neqF rfl) (R.iteF rfl (R.op rfl (neqF rfl) (R.iteF rfl ?_)))))
  simp only [List.cons_append, List.nil_append]
  refine R.call rfl (twins_ok hc) rfl (R.op rfl rfl (R.iteF rfl ?_))
  simp only [List.cons_append, List.nil_append]
  refine R.call rfl (twins_ok hc) rfl (R.op rfl rfl (R.iteF rfl ?_))
  simp only [List.cons_append, List.nil_append]
  refine R.call rfl (is_ok hc o4) rfl (R.op rfl rfl (R.iteF rfl ?_))
  simp only [List.cons_append, List.nil_append]
  refine R.bindO (qs := []) (R.loop rfl (loopk (c := c'') (by rfl) (by rfl) hc q1 _ (k := 1) (kk := 1) (Nat.le_refl _) rfl (Nat.le_refl _))) rfl ?_
  simp only [List.append_nil]
  refine R.bindO (qs := [.bool true]) ?_ rfl (R.fin rfl)
  by_cases c3 : l.length = 0
  · exact R.op rfl (eqlT (by omega)) (R.iteT rfl (R.fin rfl))
  · have hne : 0 < c''.length := by
      obtain ⟨x, hx⟩ := List.exists_mem_of_ne_nil l (by intro e; subst e; exact c3 rfl)
      exact List.length_pos_of_mem ((q2 x).2 hx)
    exact R.op rfl (eqlF (by omega)) (R.iteF rfl (R.op rfl lenN (R.op rfl (gtrT (by omega)) (R.fin rfl))))
end Go.Proofs.Ytjofhegodknmaaa.St
