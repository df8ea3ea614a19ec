/- TbinFields: the cursor. To: TbinFields: the rounds of a struct's reading. -/
import Derived.Test.YtjofhegodknmaaaGreatOa
set_option linter.unusedSimpArgs false
set_option linter.unusedVariables false
/-! TbinFields: the cursor. -/
namespace Go.Proofs.YtjofhegodknmaaaGreat.Tbf
open Go Go.RowKit
open W
open V (D)
def known (f : Nat) (ds : List D) : Option (List D) :=
  if Nat.beq f 6 && V.beqDs ds [] then some [.bool true]
  else if Nat.beq f 68 && V.beqDs ds [V.txt [105, 56]] then some [.int .i64 3, V.txt [], V.txt [], V.txt [], .int .i64 0]
  else none
abbrev F : FnT := fnT trees known
abbrev u8 (a : Int) : D := .int .u8 a
abbrev rdA (B : List Int) (n len : Int) (t : List D) : List D := .lst (B.map u8) :: .int .i64 n :: .int .i64 1 :: .int .i64 len :: .int .i64 0 :: .nil :: .nil :: .nil :: t
theorem fails_ok {B : List Int} {n len e : Int} : Cv F 46 (rdA B n len [.bool false, .int .i64 e]) (rdA B n len []) := by
  refine Cv.wp1 rfl rfl rfl ?_
  refine Wp.iteF rfl ?_
  exact Wp.fin rfl rfl ⟨rfl, rfl⟩
theorem ok_ok {B : List Int} {n len : Int} : Cv F 45 (rdA B n len []) (.bool true :: rdA B n len []) := by
  refine Cv.wp1 rfl rfl rfl ?_
  refine Wp.op rfl (eqlD _ _) ?_
  exact Wp.fin rfl rfl ⟨rfl, rfl⟩
theorem one1 (a : Int) : (fun d : D => Nat.beq d.cells.length 1) (u8 a) = true := rfl
theorem bytes_ok {P p S : List Int} {n k len r : Int} (hn : n = P.length) (hk : k = p.length) (hl : len = P.length + p.length + S.length) (hb : len ≤ 1000) (hr : r = n + k) :
    Cv F 97 (rdA (P ++ (p ++ S)) n len [.int .u64 k]) (.lst (p.map u8) :: rdA (P ++ (p ++ S)) r len []) := by
  refine Cv.wp1 rfl rfl rfl ?_
  refine Wp.bind1 (rdA (P ++ (p ++ S)) n len []) ?_ rfl rfl ?_
  · refine Wp.op rfl (lssF (by omega)) ?_
    refine Wp.iteF rfl ?_
    refine Wp.op rfl (W.subI rfl (by omega) (by omega)) ?_
    refine Wp.op rfl (mxI_ge (by omega)) ?_
    refine Wp.op rfl (convI .u64 (wrU64 (by omega) (by omega))) ?_
    refine Wp.op rfl (gtrKF (by omega)) ?_
    refine Wp.call rfl fails_ok rfl rfl ?_
    exact Wp.fin rfl rfl ⟨rfl, rfl⟩
  refine Wp.op rfl (lenI (n := len) (by simp; omega)) ?_
  refine Wp.op rfl (W.subI rfl (by omega) (by omega)) ?_
  refine Wp.op rfl (convI .u64 (wrU64 (by omega) (by omega))) ?_
  refine Wp.op rfl (gtrKF (by omega)) ?_
  refine Wp.call rfl fails_ok rfl rfl ?_
  refine Wp.call rfl ok_ok rfl rfl ?_
  refine Wp.op rfl (noI _) ?_
  refine Wp.iteF rfl ?_
  refine Wp.op rfl (convI .i64 (wrap64 (by omega) (by omega))) ?_
  refine Wp.op rfl (addI hr (by omega) (by omega)) ?_
  refine Wp.op rfl (slcL (a := P.length) (b := P.length + p.length) (by omega) (by omega) (by omega) (by simp) (all_map one1)) ?_
  refine Wp.op rfl (convI .i64 (wrap64 (by omega) (by omega))) ?_
  refine Wp.op rfl (addI hr (by omega) (by omega)) ?_
  refine Wp.fin rfl rfl ⟨rfl, ?_⟩
  have e : List.drop P.length (List.take (P.length + p.length) (List.map u8 (P ++ (p ++ S)))) = p.map u8 := by
    simp [List.take_append, List.drop_append]
  simp only [e]
/-- numbers out of bytes -/
theorem take1_all : (List.range 256).all (fun a => runs F 60 101 [.lst [u8 a], .int .i64 1] [.int .u64 a, .int .i64 0]) = true := by kernel_rfl
theorem take2_all : (List.range 256).all (fun a => runs F 60 101 [.lst [u8 0, u8 a], .int .i64 2] [.int .u64 a, .int .i64 0]) = true := by kernel_rfl
theorem take4 : runs F 100 101 [.lst [u8 0, u8 0, u8 0, u8 1], .int .i64 4] [.int .u64 1, .int .i64 0] = true := by kernel_rfl
theorem take1 {a : Int} (h0 : 0 ≤ a) (h1 : a ≤ 255) : Cv F 101 [.lst [u8 a], .int .i64 1] [.int .u64 a, .int .i64 0] := by
  obtain ⟨n, rfl⟩ : ∃ n : Nat, a = n := ⟨a.toNat, by omega⟩
  exact runs_ok (List.all_eq_true.1 take1_all n (List.mem_range.2 (by omega)))
theorem take2 {a : Int} (h0 : 0 ≤ a) (h1 : a ≤ 255) : Cv F 101 [.lst [u8 0, u8 a], .int .i64 2] [.int .u64 a, .int .i64 0] := by
  obtain ⟨n, rfl⟩ : ∃ n : Nat, a = n := ⟨a.toNat, by omega⟩
  exact runs_ok (List.all_eq_true.1 take2_all n (List.mem_range.2 (by omega)))
theorem num_ok {P p S : List Int} {n k len r v : Int} (hn : n = P.length) (hk : k = p.length) (hl : len = P.length + p.length + S.length) (hb : len ≤ 1000) (hr : r = n + k) (ht : Cv F 101 [.lst (p.map u8), .int .i64 k] [.int .u64 v, .int .i64 0]) :
    Cv F 47 (rdA (P ++ (p ++ S)) n len [.int .i64 k]) (.int .u64 v :: rdA (P ++ (p ++ S)) r len []) := by
  refine Cv.wp1 rfl rfl rfl ?_
  refine Wp.op rfl (convI .u64 (wrU64 (by omega) (by omega))) ?_
  refine Wp.call rfl (bytes_ok hn hk hl hb hr) rfl rfl ?_
  refine Wp.call rfl ht rfl rfl ?_
  exact Wp.fin rfl rfl ⟨rfl, rfl⟩
theorem num1 {P S : List Int} {n len r a : Int} (hn : n = P.length) (hl : len = P.length + 1 + S.length) (hb : len ≤ 1000) (hr : r = n + 1) (h0 : 0 ≤ a) (h1 : a ≤ 255) :
    Cv F 47 (rdA (P ++ (a :: S)) n len [.int .i64 1]) (.int .u64 a :: rdA (P ++ (a :: S)) r len []) :=
  num_ok (p := [a]) hn rfl hl hb hr (take1 h0 h1)
theorem num2 {P S : List Int} {n len r a : Int} (hn : n = P.length) (hl : len = P.length + 2 + S.length) (hb : len ≤ 1000) (hr : r = n + 2) (h0 : 0 ≤ a) (h1 : a ≤ 255) :
    Cv F 47 (rdA (P ++ (0 :: a :: S)) n len [.int .i64 2]) (.int .u64 a :: rdA (P ++ (0 :: a :: S)) r len []) :=
  num_ok (p := [0, a]) hn rfl hl hb hr (take2 h0 h1)
theorem count1 {P S : List Int} {n len r : Int} (hn : n = P.length) (hl : len = P.length + 4 + S.length) (hb : len ≤ 1000) (hr : r = n + 4) :
    Cv F 98 (rdA (P ++ (0 :: 0 :: 0 :: 1 :: S)) n len []) (.int .u64 1 :: rdA (P ++ (0 :: 0 :: 0 :: 1 :: S)) r len []) := by
  refine Cv.wp1 rfl rfl rfl ?_
  refine Wp.call rfl (num_ok (p := [0, 0, 0, 1]) (k := 4) hn rfl hl hb hr (runs_ok take4)) rfl rfl ?_
  refine Wp.op rfl (gtrKF (by omega)) ?_
  refine Wp.call rfl fails_ok rfl rfl ?_
  refine Wp.call rfl ok_ok rfl rfl ?_
  refine Wp.op rfl (noI _) ?_
  refine Wp.iteF rfl ?_
  exact Wp.fin rfl rfl ⟨rfl, rfl⟩
end Go.Proofs.YtjofhegodknmaaaGreat.Tbf
/-! TbinFields: a field is read, another one is skipped. -/
namespace Go.Proofs.YtjofhegodknmaaaGreat.Tbf
open Go Go.RowKit
open W
open V (D)
def el (a : Int) : D := .agg [.int .i64 3, .int .i64 a, V.txt [], .nil, .nil]
abbrev i8T : D := V.txt [105, 56]
def fldD (i : Int) (q : Int) : D := .agg [.int .i64 i, .int .i64 q, i8T, V.txt [], .bool false, .int .i64 0, .int .i64 0, V.txt [], .nil, .nil]
abbrev fldsD : D := .lst [fldD 10 0, fldD 20 1, fldD 30 0, fldD 40 1]
abbrev xD : D := .agg [.int .i64 4, V.txt [], fldsD]
theorem sign_all : (List.range 256).all (fun n => runs F 40 95 [.int .u64 n, .int .i64 1] [.int .i64 (if n < 128 then n else n - 256)]) = true := by kernel_rfl
theorem sign_ok {a : Int} (h0 : -128 ≤ a) (h1 : a ≤ 127) : Cv F 95 [.int .u64 (a % 256), .int .i64 1] [.int .i64 a] := by
  obtain ⟨n, hn⟩ : ∃ n : Nat, a % 256 = n := ⟨(a % 256).toNat, by omega⟩
  have h := runs_ok (List.all_eq_true.1 sign_all n (List.mem_range.2 (by omega)))
  have e : (if n < 128 then (n : Int) else n - 256) = a := by split <;> omega
  rw [e] at h
  rw [hn]
  exact h
theorem head_ok : Cv F 68 [i8T] [.int .i64 3, V.txt [], V.txt [], V.txt [], .int .i64 0] := .known rfl rfl
theorem kind_ok : Cv F 61 [.agg [.nil, .nil, .nil], i8T] [.int .i64 3] := runs_ok (k := 60) (by kernel_rfl)
theorem width3 : Cv F 90 [.int .i64 3] [.int .i64 1] := runs_ok (k := 60) (by kernel_rfl)
theorem width11 : Cv F 90 [.int .i64 11] [.int .i64 0] := runs_ok (k := 60) (by kernel_rfl)
theorem none3 : Cv F 48 [.int .i64 3] [.bool false] := runs_ok (k := 100) (by kernel_rfl)
theorem none11 : Cv F 48 [.int .i64 11] [.bool false] := runs_ok (k := 100) (by kernel_rfl)
theorem wire3 : Cv F 89 [.int .i64 3] [.int .i64 3] := runs_ok (k := 60) (by kernel_rfl)
theorem is_ok {B : List Int} {n len : Int} : Cv F 50 (rdA B n len [.int .i64 3, i8T]) (rdA B n len []) := by
  refine Cv.wp1 rfl rfl rfl ?_
  refine Wp.op rfl rfl ?_
  refine Wp.call rfl kind_ok rfl rfl ?_
  refine Wp.call rfl wire3 rfl rfl ?_
  refine Wp.op rfl (neqKF rfl) ?_
  refine Wp.call rfl fails_ok rfl rfl ?_
  exact Wp.fin rfl rfl ⟨rfl, rfl⟩
/-- a number is read -/
theorem value_ok {P S : List Int} {n len r a : Int} (hn : n = P.length) (hl : len = P.length + 1 + S.length) (hb : len ≤ 1000) (hr : r = n + 1) (h0 : -128 ≤ a) (h1 : a ≤ 127) :
    Cv F 41 (rdA (P ++ ((a % 256) :: S)) n len [i8T, .int .i64 2]) (el a :: rdA (P ++ ((a % 256) :: S)) r len []) := by
  refine Cv.wp1 rfl rfl rfl ?_
  refine Wp.call rfl head_ok rfl rfl ?_
  refine Wp.op rfl rfl ?_
  refine Wp.call rfl kind_ok rfl rfl ?_
  refine Wp.op rfl rfl ?_
  refine Wp.call rfl ok_ok rfl rfl ?_
  refine Wp.op rfl (noI _) ?_
  refine Wp.iteF rfl ?_
  refine Wp.bind1 (rdA (P ++ ((a % 256) :: S)) r len [.int .i64 a, V.txt []]) ?_ rfl rfl ?_
  · refine Wp.op rfl (eqlKF (by decide)) ?_
    refine Wp.iteF rfl ?_
    refine Wp.op rfl (eqlKF (by decide)) ?_
    refine Wp.iteF rfl ?_
    refine Wp.bind1 [.bool false] ?_ rfl rfl ?_
    · refine Wp.op rfl (eqlKF (by decide)) ?_
      refine Wp.iteF rfl ?_
      refine Wp.op rfl (eqlKF (by decide)) ?_
      exact Wp.fin rfl rfl ⟨rfl, rfl⟩
    refine Wp.iteF rfl ?_
    refine Wp.bind1 [.bool false] ?_ rfl rfl ?_
    · refine Wp.op rfl (eqlKF (by decide)) ?_
      refine Wp.iteF rfl ?_
      refine Wp.op rfl (eqlKF (by decide)) ?_
      refine Wp.iteF rfl ?_
      refine Wp.op rfl (eqlKF (by decide)) ?_
      exact Wp.fin rfl rfl ⟨rfl, rfl⟩
    refine Wp.iteF rfl ?_
    refine Wp.op rfl (eqlKF (by decide)) ?_
    refine Wp.iteF rfl ?_
    refine Wp.call rfl width3 rfl rfl ?_
    refine Wp.call rfl (num1 hn hl hb hr (by omega) (by omega)) rfl rfl ?_
    refine Wp.call rfl (sign_ok h0 h1) rfl rfl ?_
    refine Wp.op rfl rfl ?_
    exact Wp.fin rfl rfl ⟨rfl, rfl⟩
  refine Wp.op rfl rfl ?_
  exact Wp.fin rfl rfl ⟨rfl, rfl⟩
/-- a text of one byte is skipped -/
theorem skip_ok {P S : List Int} {n len r : Int} (hn : n = P.length) (hl : len = P.length + 5 + S.length) (hb : len ≤ 1000) (hr : r = n + 5) :
    Cv F 44 (rdA (P ++ (0 :: 0 :: 0 :: 1 :: 120 :: S)) n len [.int .i64 11, .int .i64 2]) (rdA (P ++ (0 :: 0 :: 0 :: 1 :: 120 :: S)) r len []) := by
  refine Cv.wp1 rfl rfl rfl ?_
  refine Wp.call rfl none11 rfl rfl ?_
  refine Wp.call rfl fails_ok rfl rfl ?_
  refine Wp.bind1 (rdA (P ++ (0 :: 0 :: 0 :: 1 :: 120 :: S)) r len []) ?_ rfl rfl ?_
  · refine Wp.call rfl ok_ok rfl rfl ?_
    refine Wp.op rfl (noI _) ?_
    refine Wp.iteF rfl ?_
    refine Wp.call rfl width11 rfl rfl ?_
    refine Wp.op rfl (gtrKF (by decide)) ?_
    refine Wp.iteF rfl ?_
    refine Wp.op rfl (eqlKT rfl) ?_
    refine Wp.iteT rfl ?_
    refine Wp.call rfl (count1 (S := 120 :: S) (r := n + 4) hn (by simp; omega) hb rfl) rfl rfl ?_
    have h := bytes_ok (P := P ++ [0, 0, 0, 1]) (p := [120]) (S := S) (n := n + 4) (k := 1) (len := len) (r := r) (by simp; omega) rfl (by simp; omega) hb (by omega)
    have e : P ++ [0, 0, 0, 1] ++ ([120] ++ S) = P ++ (0 :: 0 :: 0 :: 1 :: 120 :: S) := by simp
    rw [e] at h
    refine Wp.call rfl h rfl rfl ?_
    exact Wp.fin rfl rfl ⟨rfl, rfl⟩
  exact Wp.fin rfl rfl ⟨rfl, rfl⟩
/-- which field it is -/
theorem field_all : ((List.range 9).all fun n => runs F 200 49 [xD, .int .i64 ((n : Int) + 1)] [.agg [.int .i64 0, .int .i64 0, V.txt [], V.txt [], .bool false, .int .i64 0, .int .i64 0, V.txt [], .nil, .nil], .bool false]) = true := by kernel_rfl
theorem field_no {n : Int} (h0 : 1 ≤ n) (h1 : n ≤ 9) : Cv F 49 [xD, .int .i64 n] [.agg [.int .i64 0, .int .i64 0, V.txt [], V.txt [], .bool false, .int .i64 0, .int .i64 0, V.txt [], .nil, .nil], .bool false] := by
  obtain ⟨m, rfl⟩ : ∃ m : Nat, n = (m : Int) + 1 := ⟨(n - 1).toNat, by omega⟩
  exact runs_ok (List.all_eq_true.1 field_all m (List.mem_range.2 (by omega)))
theorem field_is : ((List.range 4).all fun n => runs F 200 49 [xD, .int .i64 (10 * ((n : Int) + 1))] [fldD (10 * ((n : Int) + 1)) ((n % 2 : Nat) : Int), .bool true]) = true := by kernel_rfl
theorem field_ok {n : Nat} (h1 : n < 4) : Cv F 49 [xD, .int .i64 (10 * ((n : Int) + 1))] [fldD (10 * ((n : Int) + 1)) ((n % 2 : Nat) : Int), .bool true] := runs_ok (List.all_eq_true.1 field_is n (List.mem_range.2 h1))
/-- numbers in a row -/
abbrev n64 (a : Int) : D := .int .i64 a
def rowN (l : List D) : D := match l with | [] => .nil | l => .lst l
theorem one64 (a : Int) : rowOk 1 false (n64 a) = true := rfl
theorem lenRow (l : List D) : copD (.pop .len) [rowN l] = some (.int .i64 l.length) := by cases l <;> rfl
theorem eltRow {l : List D} {n e : Nat} {d : D} {i : Int} (hi : i = n) (h : l[n]? = some d) (hd : d.cells.length = e) : copD (.pop (.elt e)) [rowN l, .int .i64 i] = some d := by
  cases l with
  | nil => simp at h
  | cons x l => exact eltI hi h hd
theorem catRow {e b : Nat} {ag : Bool} {l r : List D} (hn : r ≠ []) (hr : r.all (rowOk e ag) = true) (hs : (l.length + r.length) * b ≤ 140737488355328) : copD (.pop (.cat e b ag)) [rowN l, .lst r] = some (rowN (l ++ r)) := by
  cases l with
  | nil =>
    cases r with
    | nil => exact absurd rfl hn
    | cons x r => exact catN (by simp) hr (by simpa using hs)
  | cons x l => exact catL hr hs
def b104 : T := match t104 with | .op _ _ (.bind _ (.loop _ b) _ _) => b | _ => default
/-- is a number one of a row? -/
theorem index_no {l : List Int} {a : Int} (h : a ∉ l) (hb : l.length ≤ 1000) : Cv F 104 [rowN (l.map n64), n64 a] [n64 (-1)] := by
  refine Cv.wp1 rfl rfl rfl ?_
  refine Wp.op rfl (lenRow _) ?_
  refine Wp.bind1 [] ?_ rfl rfl ?_
  · refine Wp.rounds rfl rfl ?_
    have key : ∀ (k i : Nat), l.length - i ≤ k → Wl F b104 3 [.int .i64 (l.map n64).length, n64 a, rowN (l.map n64)] [.int .i64 (i : Int)] (fun y rs => y = .exit 0 ∧ rs = []) := by
      intro k
      induction k with
      | zero =>
        intro i hi
        refine Wl.step ?_
        refine Wp.op rfl (lssF (by simp; omega)) ?_
        refine Wp.iteF rfl ?_
        exact Wp.fin rfl rfl (.inr ⟨by simp, rfl, rfl⟩)
      | succ k ih =>
        intro i hi
        refine Wl.step ?_
        by_cases hl : i < l.length
        · refine Wp.op rfl (lssT (by simp; omega)) ?_
          refine Wp.iteT rfl ?_
          have hx : l[i]? = some l[i] := List.getElem?_eq_getElem hl
          refine Wp.op rfl (eltRow (n := i) rfl (d := n64 l[i]) (by simp [hx]) rfl) ?_
          refine Wp.op rfl rfl ?_
          refine Wp.op rfl (eqlKF (fun e => h (by subst e; exact List.getElem_mem hl))) ?_
          refine Wp.iteF rfl ?_
          refine Wp.op rfl (addI rfl (by omega) (by omega)) ?_
          exact Wp.fin rfl rfl (.inl ⟨rfl, rfl, ih (i + 1) (by omega)⟩)
        · refine Wp.op rfl (lssF (by simp; omega)) ?_
          refine Wp.iteF rfl ?_
          exact Wp.fin rfl rfl (.inr ⟨by simp, rfl, rfl⟩)
    exact key _ 0 (Nat.le_refl _)
  exact Wp.fin rfl rfl ⟨rfl, rfl⟩
theorem has_no {l : List Int} {a : Int} (h : a ∉ l) (hb : l.length ≤ 1000) : Cv F 51 [rowN (l.map n64), n64 a] [.bool false] := by
  refine Cv.wp1 rfl rfl rfl ?_
  refine Wp.call rfl (index_no h hb) rfl rfl ?_
  refine Wp.op rfl (geqF (by decide)) ?_
  exact Wp.fin rfl rfl ⟨rfl, rfl⟩
end Go.Proofs.YtjofhegodknmaaaGreat.Tbf
/-! TbinFields: the rounds of a struct's reading. -/
set_option maxRecDepth 20000
namespace Go.Proofs.YtjofhegodknmaaaGreat.Tbf
open Go Go.RowKit
open W
open V (D)
def b18 : T := match t18 with | .op _ _ (.op _ _ (.op _ _ (.op _ _ (.call _ _ _ (.bind _ (.loop _ b) _ _))))) => b | _ => default
/-- a field of a number; a text that is no field -/
inductive Pt where
  | f (i : Nat) (a : Int)
  | x (m : Int)
def Pt.bytes : Pt → List Int
  | .f i a => [3, 0, 10 * ((i : Int) + 1), a % 256]
  | .x m => [11, 0, m, 0, 0, 0, 1, 120]
def Pt.ok : Pt → Prop
  | .f i a => i < 4 ∧ -128 ≤ a ∧ a ≤ 127
  | .x m => 1 ≤ m ∧ m ≤ 9
def bytesL (l : List Pt) : List Int := l.flatMap Pt.bytes
def fnum : Pt → Option (Nat × Int)
  | .f i a => some (i, a)
  | .x _ => none
def idD (p : Nat × Int) : Int := 10 * ((p.1 : Int) + 1)
abbrev st (sk : Bool) (B : List Int) (n len : Int) (q : List (Nat × Int)) : List D :=
  n64 1 :: .bool sk :: rdA B n len [n64 4, V.txt [], fldsD, n64 0, n64 0, V.txt [], n64 12, n64 0, V.txt [], rowN (q.map fun p => el p.2), rowN ((q.map idD).map n64)]
abbrev fin18 (sk : Bool) (B : List Int) (n len : Int) (q : List (Nat × Int)) : List D :=
  .bool sk :: rdA B n len [n64 4, V.txt [], fldsD, n64 0, n64 0, V.txt [], n64 12, n64 0, V.txt [], rowN (q.map fun p => el p.2), rowN ((q.map idD).map n64)]
theorem num1B {B P S : List Int} {n len r a : Int} (hB : B = P ++ (a :: S)) (hn : n = P.length) (hl : len = B.length) (hb : len ≤ 1000) (hr : r = n + 1) (h0 : 0 ≤ a) (h1 : a ≤ 255) :
    Cv F 47 (rdA B n len [.int .i64 1]) (.int .u64 a :: rdA B r len []) := by
  subst hB
  exact num1 hn (by simp at hl; omega) hb hr h0 h1
theorem num2B {B P S : List Int} {n len r a : Int} (hB : B = P ++ (0 :: a :: S)) (hn : n = P.length) (hl : len = B.length) (hb : len ≤ 1000) (hr : r = n + 2) (h0 : 0 ≤ a) (h1 : a ≤ 255) :
    Cv F 47 (rdA B n len [.int .i64 2]) (.int .u64 a :: rdA B r len []) := by
  subst hB
  exact num2 hn (by simp at hl; omega) hb hr h0 h1
theorem valueB {B P S : List Int} {n len r a : Int} (hB : B = P ++ ((a % 256) :: S)) (hn : n = P.length) (hl : len = B.length) (hb : len ≤ 1000) (hr : r = n + 1) (h0 : -128 ≤ a) (h1 : a ≤ 127) :
    Cv F 41 (rdA B n len [i8T, .int .i64 2]) (el a :: rdA B r len []) := by
  subst hB
  exact value_ok hn (by simp at hl; omega) hb hr h0 h1
theorem skipB {B P S : List Int} {n len r : Int} (hB : B = P ++ (0 :: 0 :: 0 :: 1 :: 120 :: S)) (hn : n = P.length) (hl : len = B.length) (hb : len ≤ 1000) (hr : r = n + 5) :
    Cv F 44 (rdA B n len [.int .i64 11, .int .i64 2]) (rdA B r len []) := by
  subst hB
  exact skip_ok hn (by simp at hl; omega) hb hr
theorem el_row (a : Int) : [el a].all (rowOk 5 true) = true := rfl
theorem round_f {r : List D} {B P S : List Int} {n len a : Int} {sk : Bool} {i : Nat} {q : List (Nat × Int)} {Q : V.X → List D → Prop} (hr : r.length = 22) (hB : B = P ++ (3 :: 0 :: (10 * ((i : Int) + 1)) :: (a % 256) :: S)) (hn : n = P.length) (hl : len = B.length) (hb : len ≤ 1000)
    (hi : i < 4) (h0 : -128 ≤ a) (h1 : a ≤ 127) (hd : idD (i, a) ∉ q.map idD) (hq : q.length ≤ 10) (hw : Wl F b18 22 r (st sk B (n + 4) len (q ++ [(i, a)])) Q) : Wl F b18 22 r (st sk B n len q) Q := by
  refine Wl.step ?_
  refine Wp.call rfl ok_ok rfl rfl ?_
  refine Wp.iteT rfl ?_
  refine Wp.bind1 (.bool sk :: n64 3 :: rdA B (n + 4) len [rowN (q.map (fun p => el p.2) ++ [el a]), rowN ((q.map idD).map n64 ++ [n64 (10 * ((i : Int) + 1))])]) ?_ rfl rfl ?_
  · refine Wp.call rfl (num1B (r := n + 1) hB hn hl hb rfl (by omega) (by omega)) rfl rfl ?_
    refine Wp.op rfl (convI .i64 (wrap64 (by omega) (by omega))) ?_
    refine Wp.call rfl ok_ok rfl rfl ?_
    refine Wp.op rfl (noI _) ?_
    refine Wp.iteF rfl ?_
    refine Wp.op rfl (eqlKF (by decide)) ?_
    refine Wp.iteF rfl ?_
    refine Wp.call rfl none3 rfl rfl ?_
    refine Wp.call rfl fails_ok rfl rfl ?_
    refine Wp.call rfl (num2B (P := P ++ [3]) (S := (a % 256) :: S) (a := 10 * ((i : Int) + 1)) (r := n + 3) (by simp [hB]) (by simp; omega) hl hb (by omega) (by omega) (by omega)) rfl rfl ?_
    refine Wp.op rfl (convI .i16 (wrI16 (by omega) (by omega))) ?_
    refine Wp.op rfl (convI .i64 (wrap64 (by omega) (by omega))) ?_
    refine Wp.op rfl rfl ?_
    refine Wp.call rfl (field_ok hi) rfl rfl ?_
    iterate 10 refine Wp.op rfl rfl ?_
    refine Wp.op rfl (noI _) ?_
    refine Wp.iteF rfl ?_
    refine Wp.call rfl is_ok rfl rfl ?_
    refine Wp.call rfl (has_no hd (by simp; omega)) rfl rfl ?_
    refine Wp.call rfl fails_ok rfl rfl ?_
    refine Wp.op rfl rfl ?_
    refine Wp.op rfl (catRow (by simp) rfl (by simp; omega)) ?_
    refine Wp.op rfl rfl ?_
    refine Wp.call rfl (valueB (P := P ++ [3, 0, 10 * ((i : Int) + 1)]) (S := S) (r := n + 4) (by simp [hB]) (by simp; omega) hl hb (by omega) h0 h1) rfl rfl ?_
    iterate 5 refine Wp.op rfl rfl ?_
    refine Wp.op rfl rfl ?_
    refine Wp.op rfl (catRow (by simp) (el_row a) (by simp; omega)) ?_
    exact Wp.fin (by simp [len_push, hr]) rfl ⟨rfl, rfl⟩
  refine Wp.fin (by simp [len_push, hr]) rfl (.inl ⟨rfl, rfl, ?_⟩)
  simpa [st, idD] using hw
theorem round_x {r : List D} {B P S : List Int} {n len m : Int} {sk : Bool} {q : List (Nat × Int)} {Q : V.X → List D → Prop} (hr : r.length = 22) (hB : B = P ++ (11 :: 0 :: m :: 0 :: 0 :: 0 :: 1 :: 120 :: S)) (hn : n = P.length) (hl : len = B.length) (hb : len ≤ 1000)
    (h0 : 1 ≤ m) (h1 : m ≤ 9) (hw : Wl F b18 22 r (st true B (n + 8) len q) Q) : Wl F b18 22 r (st sk B n len q) Q := by
  refine Wl.step ?_
  refine Wp.call rfl ok_ok rfl rfl ?_
  refine Wp.iteT rfl ?_
  refine Wp.bind1 (.bool true :: n64 11 :: rdA B (n + 8) len [rowN (q.map (fun p => el p.2)), rowN ((q.map idD).map n64)]) ?_ rfl rfl ?_
  · refine Wp.call rfl (num1B (r := n + 1) hB hn hl hb rfl (by omega) (by omega)) rfl rfl ?_
    refine Wp.op rfl (convI .i64 (wrap64 (by omega) (by omega))) ?_
    refine Wp.call rfl ok_ok rfl rfl ?_
    refine Wp.op rfl (noI _) ?_
    refine Wp.iteF rfl ?_
    refine Wp.op rfl (eqlKF (by decide)) ?_
    refine Wp.iteF rfl ?_
    refine Wp.call rfl none11 rfl rfl ?_
    refine Wp.call rfl fails_ok rfl rfl ?_
    refine Wp.call rfl (num2B (P := P ++ [11]) (S := 0 :: 0 :: 0 :: 1 :: 120 :: S) (a := m) (r := n + 3) (by simp [hB]) (by simp; omega) hl hb (by omega) (by omega) (by omega)) rfl rfl ?_
    refine Wp.op rfl (convI .i16 (wrI16 (by omega) (by omega))) ?_
    refine Wp.op rfl (convI .i64 (wrap64 (by omega) (by omega))) ?_
    refine Wp.op rfl rfl ?_
    refine Wp.call rfl (field_no h0 h1) rfl rfl ?_
    iterate 10 refine Wp.op rfl rfl ?_
    refine Wp.op rfl (noI _) ?_
    refine Wp.iteT rfl ?_
    refine Wp.op rfl rfl ?_
    refine Wp.call rfl (skipB (P := P ++ [11, 0, m]) (S := S) (r := n + 8) (by simp [hB]) (by simp; omega) hl hb (by omega)) rfl rfl ?_
    exact Wp.fin (by simp [len_push, hr]) rfl ⟨rfl, rfl⟩
  exact Wp.fin (by simp [len_push, hr]) rfl (.inl ⟨rfl, rfl, hw⟩)
theorem round_end {r : List D} {B P : List Int} {n len : Int} {sk : Bool} {q : List (Nat × Int)} (hr : r.length = 22) (hB : B = P ++ [0]) (hn : n = P.length) (hl : len = B.length) (hb : len ≤ 1000) :
    Wl F b18 22 r (st sk B n len q) (fun y rs => y = .exit 0 ∧ rs = fin18 sk B len len q) := by
  have e : len = n + 1 := by rw [hl, hB]; simp; omega
  refine Wl.step ?_
  refine Wp.call rfl ok_ok rfl rfl ?_
  refine Wp.iteT rfl ?_
  refine Wp.bind ?_
  refine Wp.call rfl (num1B (r := len) hB hn hl hb e (by omega) (by omega)) rfl rfl ?_
  refine Wp.op rfl (convI .i64 (wrap64 (by omega) (by omega))) ?_
  refine Wp.call rfl ok_ok rfl rfl ?_
  refine Wp.op rfl (noI _) ?_
  refine Wp.iteF rfl ?_
  refine Wp.op rfl (eqlKT rfl) ?_
  refine Wp.iteT rfl ?_
  exact Wp.fin (by simp [len_push, hr]) rfl (.inr ⟨by simp, .inr ⟨by simp, rfl, rfl⟩⟩)
/-- all that is there -/
theorem all_rounds {r : List D} {B : List Int} {len : Int} (hr : r.length = 22) (hl : len = B.length) (hb : len ≤ 1000) : ∀ (ps : List Pt) (P : List Int) (n : Int) (sk : Bool) (q : List (Nat × Int)), (∀ p ∈ ps, p.ok) → B = P ++ (bytesL ps ++ [0]) → n = P.length → ((q ++ ps.filterMap fnum).map idD).Nodup → (q ++ ps.filterMap fnum).length ≤ 10 →
    Wl F b18 22 r (st sk B n len q) (fun y rs => y = .exit 0 ∧ ∃ sk, rs = fin18 sk B len len (q ++ ps.filterMap fnum))
  | [], P, n, sk, q, hp, hB, hn, hd, hq => by
    refine (round_end hr (by simpa [bytesL] using hB) hn hl hb).mono fun y rs h => ⟨h.1, sk, by simpa using h.2⟩
  | .f i a :: ps, P, n, sk, q, hp, hB, hn, hd, hq => by
    obtain ⟨h1, h2, h3⟩ := hp _ List.mem_cons_self
    have e : (q ++ List.filterMap fnum (.f i a :: ps)) = (q ++ [(i, a)]) ++ ps.filterMap fnum := by simp [fnum]
    rw [e] at hd hq ⊢
    refine round_f (P := P) (S := bytesL ps ++ [0]) hr (by simpa [bytesL, Pt.bytes] using hB) hn hl hb h1 h2 h3 ?_ ?_ ?_
    · intro hm
      simp only [List.map_append, List.append_assoc, List.nodup_append] at hd
      exact hd.2.2 _ hm _ (by simp) rfl
    · simp at hq; omega
    · refine all_rounds hr hl hb ps (P ++ [3, 0, 10 * ((i : Int) + 1), a % 256]) _ sk _ (fun p h => hp p (List.mem_cons_of_mem _ h)) (by simpa [bytesL, Pt.bytes] using hB) (by simp; omega) hd hq
  | .x m :: ps, P, n, sk, q, hp, hB, hn, hd, hq => by
    have e0 : fnum (.x m) = none := rfl
    obtain ⟨h1, h2⟩ := hp _ List.mem_cons_self
    have e : List.filterMap fnum (.x m :: ps) = ps.filterMap fnum := by simp [e0]
    rw [e] at hd hq ⊢
    refine round_x (P := P) (S := bytesL ps ++ [0]) hr (by simpa [bytesL, Pt.bytes] using hB) hn hl hb h1 h2 ?_
    exact all_rounds hr hl hb ps (P ++ [11, 0, m, 0, 0, 0, 1, 120]) _ true q (fun p h => hp p (List.mem_cons_of_mem _ h)) (by simpa [bytesL, Pt.bytes] using hB) (by simp; omega) hd hq
end Go.Proofs.YtjofhegodknmaaaGreat.Tbf
