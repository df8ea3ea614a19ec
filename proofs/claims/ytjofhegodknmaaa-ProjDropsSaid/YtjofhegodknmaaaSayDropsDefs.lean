/- Of a struct just the fields that the other one has stay: the law's loop, what appends. Mine. -/
import Derived.Test.YtjofhegodknmaaaSayDropsLoop
set_option linter.unusedVariables false
set_option linter.unusedSimpArgs false
namespace Go.Proofs.Ytjofhegodknmaaa.Say
open Go Go.RowKit
open V (D)

theorem regsDl : (V.Regs d8 ∧ V.Regs .skip ∧ V.Regs (.exit 0)) ∧ V.Regs d10 ∧ (V.Regs d11 ∧ V.Regs d12 ∧ V.Regs .skip) ∧ (V.Regs d13 ∧ (V.Regs d14 ∧ V.Regs d15 ∧ V.Regs d16 ∧ V.Regs d17 ∧ V.Regs .skip) ∧ V.Regs .skip) ∧ V.Regs d9 := by
  have h := regsDm.2.2.2.2.2.1.2
  rw [shapeDl] at h
  obtain ⟨h8, ⟨h10, ⟨h11, h12, hs⟩, h13, ⟨h14, h15, h16, h17, hs2⟩, hs3⟩, h9⟩ := h
  exact ⟨h8, h10, ⟨h11, h12, hs⟩, ⟨h13, ⟨h14, h15, h16, h17, hs2⟩, hs3⟩, h9⟩
theorem ed12 : d12 = .region 12 (ops d12) false := by kernel_rfl
theorem ed14 : d14 = .region 14 (ops d14) false := by kernel_rfl
theorem ed15 : d15 = .region 15 (ops d15) true := by kernel_rfl
theorem ed17 : d17 = .region 17 (ops d17) true := by kernel_rfl
theorem rowXT : V.RowT Try.prog 29 33 10 136 true := ⟨by kernel_rfl, by kernel_rfl, by kernel_rfl, by kernel_rfl, by decide, by decide⟩
theorem isRowXT : V.isRowT Try.prog 29 = true := by kernel_rfl
theorem rowIT : V.RowT Try.prog 26 3 1 8 false := ⟨by kernel_rfl, by kernel_rfl, by kernel_rfl, by kernel_rfl, by decide, by decide⟩
theorem isRowIT : V.isRowT Try.prog 26 = true := by kernel_rfl
theorem rowLT : V.RowT Try.prog 25 28 5 80 true := ⟨by kernel_rfl, by kernel_rfl, by kernel_rfl, by kernel_rfl, by decide, by decide⟩
theorem isRowLT : V.isRowT Try.prog 25 = true := by kernel_rfl
def fdc (z : Int) : List D := [nI z, .int .i64 0, i8t, mt, .bool false, .int .i64 0, .int .i64 0, mt, .nil, .nil]
def vnc (n : Int) : List D := [.int .i64 3, nI n, mt, .nil, .nil]
def rowX (g : Nat) (xs : List Int) : V.Obj := V.rowOf 33 10 true g (xs.map fdc)
def rowI (g : Nat) (vs : List Int) : V.Obj := V.rowOf 3 1 false g (vs.map fun v => [nI v])
def rowL (n : Int) (g : Nat) (vs : List Int) : V.Obj := V.rowOf 28 5 true g (vs.map fun _ => vnc n)
theorem rowX_refs (g : Nat) (xs : List Int) : V.refsL (rowX g xs).cells = [] := V.refsL_dats _
theorem rowI_refs (g : Nat) (xs : List Int) : V.refsL (rowI g xs).cells = [] := V.refsL_dats _
theorem rowL_refs (n : Int) (g : Nat) (xs : List Int) : V.refsL (rowL n g xs).cells = [] := V.refsL_dats _
theorem map_len {f : Int → List D} {s : Nat} (h : ∀ z, (f z).length = s) (xs : List Int) : ∀ c ∈ xs.map f, c.length = s := by
  intro c hc
  obtain ⟨z, _, rfl⟩ := List.mem_map.1 hc
  exact h z
theorem rowX_len {xs : List Int} {a : Nat} (h : xs.length = a + 1) (g : Nat) : (a + 1) * 10 = (rowX g xs).cells.length := by
  simp only [rowX, V.rowOf, List.length_map, V.flatten_length (map_len (f := fdc) (fun _ => rfl) xs), h]
theorem rowI_len {xs : List Int} {a : Nat} (h : xs.length = a + 1) (g : Nat) : (a + 1) * 1 = (rowI g xs).cells.length := by
  simp only [rowI, V.rowOf, List.length_map, V.flatten_length (map_len (f := fun v => [nI v]) (fun _ => rfl) xs), h]
theorem rowL_len {n : Int} {xs : List Int} {a : Nat} (h : xs.length = a + 1) (g : Nat) : (a + 1) * 5 = (rowL n g xs).cells.length := by
  simp only [rowL, V.rowOf, List.length_map, V.flatten_length (s := 5) (map_len (f := fun _ => vnc n) (fun _ => rfl) xs), h]
theorem rowX_more (g g' : Nat) (xs : List Int) (z : Int) : (⟨33, 10, true, g', false, (rowX g xs).cells ++ (fdc z).map .dat⟩ : V.Obj) = rowX g' (xs ++ [z]) := by simp [rowX, V.rowOf]
theorem rowI_more (g g' : Nat) (xs : List Int) (z : Int) : (⟨3, 1, false, g', false, (rowI g xs).cells ++ [nI z].map .dat⟩ : V.Obj) = rowI g' (xs ++ [z]) := by simp [rowI, V.rowOf]
theorem rowL_more (n : Int) (g g' : Nat) (xs : List Int) (z : Int) : (⟨28, 5, true, g', false, (rowL n g xs).cells ++ (vnc n).map .dat⟩ : V.Obj) = rowL n g' (xs ++ [z]) := by simp [rowL, V.rowOf]
def xO (f : V.U) : V.Obj := ⟨31, 3, true, 0, false, [.dat (.int .i64 4), .dat mt, f]⟩
/-- t11: is the field known?; t12: the value -/
def tD (h k : D) (n : Int) (i : Nat) (t11 t12 : V.U) : List V.U := [.dat h, .dat k, .dat (.int .i8 n), .junk, .junk, .junk, .junk, .ptr 104 0 0, .ptr 112 0 0, .ptr 144 0 0, .dat (.int .i64 i), t11, t12] ++ List.replicate 117 .junk
def kD : List Bool := [true, true, true, false, false, false, false, true, true, true, true, true, true]
def kDn : List Bool := [true, true, true, false, false, false, false, true, true, true, true, true, false]

theorem ed8 : d8 = .region 8 (ops d8) false := by kernel_rfl
theorem ed9 : d9 = .region 9 (ops d9) false := by kernel_rfl
theorem ed10 : d10 = .region 10 (ops d10) false := by kernel_rfl
theorem ed11 : d11 = .region 11 (ops d11) false := by kernel_rfl
theorem ed13 : d13 = .region 13 (ops d13) false := by kernel_rfl
theorem ed16 : d16 = .region 16 (ops d16) false := by kernel_rfl
/-- what is known less -/
theorem less {c : Code} {keep : List Bool} {tm tm' : List V.U} {st : V.Store} {nx : Nat} {x : V.X} {s' : V.St} (e : V.maskU keep tm = tm') (h : V.Run Try.prog c ⟨tm', st, nx⟩ x s') : V.Run Try.prog c ⟨tm, st, nx⟩ x s' := by
  subst e
  refine ⟨h.fresh, fun w F L b0 a hS hT hd hf hb => h.wp w F L b0 a hS ⟨?_, fun t u hu => ?_⟩ hd hf hb⟩
  · show _ = (V.maskU keep tm).length
    rw [← V.mask_eq, V.mask_length]
    exact hT.1
  · have hu : (V.maskU keep tm)[t]? = some u := hu
    rw [← V.mask_eq] at hu
    rcases V.mask_get hu with rfl | h1
    · have hlt : t < a.tmps.size := by
        rw [hT.1]
        show t < tm.length
        rw [← V.mask_length keep tm]
        exact (List.getElem?_eq_some_iff.1 hu).1
      exact ⟨a.tmps[t], by simp [hlt], .junk _⟩
    · exact hT.2 t u h1
/-- a store that keeps to itself -/
structure Cl (st : V.Store) (nx : Nat) : Prop where
  kept : V.AllKept (V.getO st) (st.map Prod.fst) st
  has : [104, 112, 144].all (fun x => (st.map Prod.fst).contains x) = true
  lt : (st.map Prod.fst).all (fun x => decide (x < nx)) = true
theorem stIds (st : V.Store) : st.all (fun p => (st.map Prod.fst).contains p.1) = true := by
  rw [List.all_eq_true]
  intro p hp
  rw [List.contains_iff_mem]
  exact List.mem_map.2 ⟨p, hp, rfl⟩
/-- the slots, one more of them told -/
def tE (h k : D) (n : Int) (i : Nat) (t11 t12 : V.U) (j : Nat) (u : V.U) : List V.U := [.dat h, .dat k, .dat (.int .i8 n), .junk, .junk, .junk, .junk, .ptr 104 0 0, .ptr 112 0 0, .ptr 144 0 0, .dat (.int .i64 i), t11, t12] ++ List.replicate j .junk ++ [u] ++ List.replicate (116 - j) .junk
theorem tD_tE (h k : D) (n : Int) (i : Nat) (t11 t12 : V.U) : tD h k n i t11 t12 = tE h k n i t11 t12 0 .junk := rfl
def kE (j : Nat) : List Bool := kD ++ List.replicate j false ++ [true]
theorem less_tE {c : Code} {h k : D} {n : Int} {i : Nat} {t11 t12 : V.U} {j : Nat} {u : V.U} {st : V.Store} {nx : Nat} {x : V.X} {s' : V.St} (hr : V.Run Try.prog c ⟨tD h k n i t11 t12, st, nx⟩ x s') (hj : j ≤ 116) : V.Run Try.prog c ⟨tE h k n i t11 t12 j u, st, nx⟩ x s' := by
  refine less (keep := kD) ?_ hr
  have e : tE h k n i t11 t12 j u = [.dat h, .dat k, .dat (.int .i8 n), .junk, .junk, .junk, .junk, .ptr 104 0 0, .ptr 112 0 0, .ptr 144 0 0, .dat (.int .i64 i), t11, t12] ++ (List.replicate j V.U.junk ++ [u] ++ List.replicate (116 - j) .junk) := by simp [tE]
  have e2 : (List.replicate j V.U.junk ++ [u] ++ List.replicate (116 - j) V.U.junk).map (fun _ => V.U.junk) = List.replicate 117 .junk := by
    rw [List.map_const']
    simp only [List.length_append, List.length_replicate, List.length_cons, List.length_nil]
    congr 1
    omega
  rw [e]
  show _ :: _ :: _ :: _ :: _ :: _ :: _ :: _ :: _ :: _ :: _ :: _ :: _ :: (List.replicate j V.U.junk ++ [u] ++ List.replicate (116 - j) V.U.junk).map (fun _ => V.U.junk) = _
  rw [e2]
  rfl
section
variable {st : V.Store} {nx : Nat} {h k : D} {n : Int} {i : Nat}
theorem refsE (hc : Cl st nx) (t11 t12 : V.U) (j : Nat) (u : V.U) (h11 : V.refs t11 = []) (h12 : (V.refs t12).all (fun x => (st.map Prod.fst).contains x) = true) (hu : V.refs u = []) :
    (V.refsL (tE h k n i t11 t12 j u)).all (fun x => (st.map Prod.fst).contains x) = true := by
  have hj : ∀ m, V.refsL (List.replicate m V.U.junk) = [] := by
    intro m
    induction m with
    | zero => rfl
    | succ m ih => rw [List.replicate_succ, V.refsL, ih]; rfl
  have happ : ∀ a b : List V.U, V.refsL (a ++ b) = V.refsL a ++ V.refsL b := by
    intro a
    induction a with
    | nil => intro b; rfl
    | cons x a ih => intro b; rw [List.cons_append, V.refsL, V.refsL, ih, List.append_assoc]
  have hh := hc.has
  simp only [List.all_cons, List.all_nil, Bool.and_true, Bool.and_eq_true] at hh
  simp only [tE, happ, hj, V.refsL, V.refs, h11, hu, List.nil_append, List.append_nil, List.all_append, List.cons_append, List.all_cons, hh, h12, Bool.and_true, List.all_nil]
theorem dg8 (hc : Cl st nx) (r : Bool) (hr : V.cmpI .lss (i : Int) 12 = some r) : V.Run Try.prog d8 ⟨tD h k n i .junk .junk, st, nx⟩ .normal ⟨tE h k n i .junk .junk 18 (.dat (.bool r)), st, nx⟩ := by
  rw [ed8]
  apply V.Run.stepsL (goodE _) regs follows (keep := kE 18) (ids := st.map Prod.fst) (nx := nx) (by rw [← ed8]; exact regsDl.1.1)
  · apply V.Steps.auto; kernel_rfl; kernel_rfl; kernel_rfl; kernel_rfl
    apply V.Steps.op; kernel_rfl; kernel_rfl; kernel_rfl; exact ((V.st_cmp (op := .lss) (x := .tmp 30) (y := .const (.int .i64 12)) (k := .i64) (m := (i : Int)) (n := 12) (r := r) (by kernel_rfl) (by kernel_rfl) (by kernel_rfl) hr))
    exact V.Steps.done (by kernel_rfl) rfl
  · rfl
  · exact hc.kept
  · exact refsE hc .junk .junk 18 (.dat (.bool r)) rfl rfl rfl
  · exact stIds st
  · exact hc.lt
  · kernel_rfl
theorem dg9 (hc : Cl st nx) (hi : i < 1000) (t11 : V.U) (h11 : V.refs t11 = []) : V.Run Try.prog d9 ⟨tD h k n i t11 .junk, st, nx⟩ .normal ⟨tD h k n (i + 1) .junk .junk, st, nx⟩ := by
  rw [ed9]
  apply V.Run.stepsL (goodE _) regs follows (keep := [true, true, true, false, false, false, false, true, true, true, true]) (ids := st.map Prod.fst) (nx := nx) (by rw [← ed9]; exact regsDl.2.2.2.2)
  · apply V.Steps.auto; kernel_rfl; kernel_rfl; kernel_rfl; kernel_rfl
    apply V.Steps.op; kernel_rfl; kernel_rfl; kernel_rfl; exact ((V.st_ari (op := .add) (x := .tmp 32) (y := .const (.int .i64 1)) (k := .i64) (m := (i : Int)) (n := 1) (r := ((i + 1 : Nat) : Int)) (by kernel_rfl) (by kernel_rfl) (by kernel_rfl) (by simp only [V.ariI, V.wr_i64, Option.some.injEq]; omega)))
    apply V.Steps.auto; kernel_rfl; kernel_rfl; kernel_rfl; kernel_rfl
    exact V.Steps.done (by kernel_rfl) rfl
  · rfl
  · exact hc.kept
  · exact refsE (i := i + 1) hc .junk .junk 0 .junk rfl rfl rfl
  · exact stIds st
  · exact hc.lt
  · kernel_rfl
theorem dg11 (hc : Cl st nx) (b : Bool) : V.Run Try.prog d11 ⟨tD h k n i (.dat (.bool b)) .junk, st, nx⟩ .normal ⟨tE h k n i (.dat (.bool b)) .junk 31 (.dat (.bool b)), st, nx⟩ := by
  rw [ed11]
  apply V.Run.stepsL (goodE _) regs follows (keep := kE 31) (ids := st.map Prod.fst) (nx := nx) (by rw [← ed11]; exact regsDl.2.2.1.1)
  · apply V.Steps.auto; kernel_rfl; kernel_rfl; kernel_rfl; kernel_rfl
    exact V.Steps.done (by kernel_rfl) rfl
  · rfl
  · exact hc.kept
  · exact refsE hc _ .junk 31 (.dat (.bool b)) rfl rfl rfl
  · exact stIds st
  · exact hc.lt
  · kernel_rfl
theorem dg16 (hc : Cl st nx) (b : Bool) {p : Nat} (hp : (st.map Prod.fst).contains p = true) : V.Run Try.prog d16 ⟨tD h k n i (.dat (.bool b)) (.ptr p 0 0), st, nx⟩ .normal ⟨tE h k n i (.dat (.bool b)) (.ptr p 0 0) 66 (.dat (.bool b)), st, nx⟩ := by
  rw [ed16]
  apply V.Run.stepsL (goodE _) regs follows (keep := kE 66) (ids := st.map Prod.fst) (nx := nx) (by rw [← ed16]; exact regsDl.2.2.2.1.2.1.2.2.1)
  · apply V.Steps.auto; kernel_rfl; kernel_rfl; kernel_rfl; kernel_rfl
    exact V.Steps.done (by kernel_rfl) rfl
  · rfl
  · exact hc.kept
  · exact refsE hc _ (.ptr p 0 0) 66 (.dat (.bool b)) rfl (by simp only [V.refs, List.all_cons, hp, List.all_nil, Bool.and_true]) rfl
  · exact stIds st
  · exact hc.lt
  · kernel_rfl
end

/-! The two lists of truths. -/
theorem blU : Try.prog.underlying 22 = some (.slice 4) := by kernel_rfl
theorem blS : V.sizeT Try.prog 4 = some 1 := by kernel_rfl
theorem st_addrB {g : Nat → Option V.Obj} {L : List D} {i : Nat} {d : D} (hi : L[i]? = some d) (hd : d.cells.length = 1) : V.opIndexAddr Try.prog g 22 (.dat (.lst L)) (.dat (.int .i64 i)) = some ⟨.dat (.fp d.cells), [], []⟩ := by
  unfold V.opIndexAddr
  simp only [blU, blS, Int.toNat_natCast, hi]
  rw [if_pos ⟨by omega, hd, by omega⟩]
section
variable {st : V.Store} {nx : Nat} {h k : D} {n : Int} {i : Nat}
theorem dg10_in (hc : Cl st nx) {L : List D} {b : Bool} (hl : L[i]? = some (.bool b)) : V.Run Try.prog d10 ⟨tD h (.lst L) n i .junk .junk, st, nx⟩ .normal ⟨tD h (.lst L) n i (.dat (.bool b)) .junk, st, nx⟩ := by
  have hlt : i < L.length := (List.getElem?_eq_some_iff.1 hl).1
  rw [ed10]
  apply V.Run.stepsL (goodE _) regs follows (keep := kD) (ids := st.map Prod.fst) (nx := nx) (by rw [← ed10]; exact regsDl.2.1)
  · apply V.Steps.auto; kernel_rfl; kernel_rfl; kernel_rfl; kernel_rfl
    apply V.Steps.auto; kernel_rfl; kernel_rfl; kernel_rfl; kernel_rfl
    apply V.Steps.auto; kernel_rfl; kernel_rfl; kernel_rfl; kernel_rfl
    apply V.Steps.op; kernel_rfl; kernel_rfl; kernel_rfl; exact ((V.st_cmp (op := .lss) (x := .tmp 34) (y := .tmp 36) (k := .i64) (m := (i : Int)) (n := (L.length : Int)) (r := true) (by kernel_rfl) (by kernel_rfl) (by kernel_rfl) (by simp only [V.cmpI, Option.some.injEq, decide_eq_true_eq]; omega)))
    apply V.Steps.auto; kernel_rfl; kernel_rfl; kernel_rfl; kernel_rfl
    apply V.Steps.auto; kernel_rfl; kernel_rfl; kernel_rfl; kernel_rfl
    apply V.Steps.auto; kernel_rfl; kernel_rfl; kernel_rfl; kernel_rfl
    apply V.Steps.op; kernel_rfl; kernel_rfl; kernel_rfl; exact ((Eq.trans (b := V.opIndexAddr Try.prog (V.getO st) 22 (.dat (.lst L)) (.dat (.int .i64 i))) (by kernel_rfl) (st_addrB hl rfl)))
    apply V.Steps.auto; kernel_rfl; kernel_rfl; kernel_rfl; kernel_rfl
    apply V.Steps.auto; kernel_rfl; kernel_rfl; kernel_rfl; kernel_rfl
    apply V.Steps.auto; kernel_rfl; kernel_rfl; kernel_rfl; kernel_rfl
    exact V.Steps.done (by kernel_rfl) rfl
  · rfl
  · exact V.AllKept.of_eq (g' := V.getO st) (by kernel_rfl) hc.kept
  · exact Eq.trans (b := (V.refsL (tE h (.lst L) n i (.dat (.bool b)) .junk 0 .junk)).all (fun x => (st.map Prod.fst).contains x)) (by kernel_rfl) (refsE hc (.dat (.bool b)) .junk 0 .junk rfl rfl rfl)
  · exact stIds st
  · exact hc.lt
  · kernel_rfl
theorem dg10_out (hc : Cl st nx) {L : List D} (hl : L.length ≤ i) : V.Run Try.prog d10 ⟨tD h (.lst L) n i .junk .junk, st, nx⟩ .normal ⟨tD h (.lst L) n i (.dat (.bool false)) .junk, st, nx⟩ := by
  rw [ed10]
  apply V.Run.stepsL (goodE _) regs follows (keep := kD) (ids := st.map Prod.fst) (nx := nx) (by rw [← ed10]; exact regsDl.2.1)
  · apply V.Steps.auto; kernel_rfl; kernel_rfl; kernel_rfl; kernel_rfl
    apply V.Steps.auto; kernel_rfl; kernel_rfl; kernel_rfl; kernel_rfl
    apply V.Steps.auto; kernel_rfl; kernel_rfl; kernel_rfl; kernel_rfl
    apply V.Steps.op; kernel_rfl; kernel_rfl; kernel_rfl; exact ((V.st_cmp (op := .lss) (x := .tmp 34) (y := .tmp 36) (k := .i64) (m := (i : Int)) (n := (L.length : Int)) (r := false) (by kernel_rfl) (by kernel_rfl) (by kernel_rfl) (by simp only [V.cmpI, Option.some.injEq, decide_eq_false_iff_not]; omega)))
    apply V.Steps.auto; kernel_rfl; kernel_rfl; kernel_rfl; kernel_rfl
    apply V.Steps.skip; kernel_rfl; kernel_rfl
    apply V.Steps.skip; kernel_rfl; kernel_rfl
    apply V.Steps.skip; kernel_rfl; kernel_rfl
    apply V.Steps.skip; kernel_rfl; kernel_rfl
    apply V.Steps.auto; kernel_rfl; kernel_rfl; kernel_rfl; kernel_rfl
    apply V.Steps.auto; kernel_rfl; kernel_rfl; kernel_rfl; kernel_rfl
    exact V.Steps.done (by kernel_rfl) rfl
  · rfl
  · exact V.AllKept.of_eq (g' := V.getO st) (by kernel_rfl) hc.kept
  · exact Eq.trans (b := (V.refsL (tE h (.lst L) n i (.dat (.bool false)) .junk 0 .junk)).all (fun x => (st.map Prod.fst).contains x)) (by kernel_rfl) (refsE hc (.dat (.bool false)) .junk 0 .junk rfl rfl rfl)
  · exact stIds st
  · exact hc.lt
  · kernel_rfl
theorem dg10_nil (hc : Cl st nx)  : V.Run Try.prog d10 ⟨tD h .nil n i .junk .junk, st, nx⟩ .normal ⟨tD h .nil n i (.dat (.bool false)) .junk, st, nx⟩ := by
  rw [ed10]
  apply V.Run.stepsL (goodE _) regs follows (keep := kD) (ids := st.map Prod.fst) (nx := nx) (by rw [← ed10]; exact regsDl.2.1)
  · apply V.Steps.auto; kernel_rfl; kernel_rfl; kernel_rfl; kernel_rfl
    apply V.Steps.auto; kernel_rfl; kernel_rfl; kernel_rfl; kernel_rfl
    apply V.Steps.auto; kernel_rfl; kernel_rfl; kernel_rfl; kernel_rfl
    apply V.Steps.op; kernel_rfl; kernel_rfl; kernel_rfl; exact ((V.st_cmp (op := .lss) (x := .tmp 34) (y := .tmp 36) (k := .i64) (m := (i : Int)) (n := 0) (r := false) (by kernel_rfl) (by kernel_rfl) (by kernel_rfl) (by simp only [V.cmpI, Option.some.injEq, decide_eq_false_iff_not]; omega)))
    apply V.Steps.auto; kernel_rfl; kernel_rfl; kernel_rfl; kernel_rfl
    apply V.Steps.skip; kernel_rfl; kernel_rfl
    apply V.Steps.skip; kernel_rfl; kernel_rfl
    apply V.Steps.skip; kernel_rfl; kernel_rfl
    apply V.Steps.skip; kernel_rfl; kernel_rfl
    apply V.Steps.auto; kernel_rfl; kernel_rfl; kernel_rfl; kernel_rfl
    apply V.Steps.auto; kernel_rfl; kernel_rfl; kernel_rfl; kernel_rfl
    exact V.Steps.done (by kernel_rfl) rfl
  · rfl
  · exact V.AllKept.of_eq (g' := V.getO st) (by kernel_rfl) hc.kept
  · exact Eq.trans (b := (V.refsL (tE h .nil n i (.dat (.bool false)) .junk 0 .junk)).all (fun x => (st.map Prod.fst).contains x)) (by kernel_rfl) (refsE hc (.dat (.bool false)) .junk 0 .junk rfl rfl rfl)
  · exact stIds st
  · exact hc.lt
  · kernel_rfl
theorem dg13_in (hc : Cl st nx) (t11 : V.U) (h11 : V.refs t11 = []) {L : List D} {b : Bool} (hl : L[i]? = some (.bool b)) : V.Run Try.prog d13 ⟨tD (.lst L) k n i t11 .junk, st, nx⟩ .normal ⟨tE (.lst L) k n i t11 .junk 49 (.dat (.bool b)), st, nx⟩ := by
  have hlt : i < L.length := (List.getElem?_eq_some_iff.1 hl).1
  rw [ed13]
  apply V.Run.stepsL (goodE _) regs follows (keep := kE 49) (ids := st.map Prod.fst) (nx := nx) (by rw [← ed13]; exact regsDl.2.2.2.1.1)
  · apply V.Steps.auto; kernel_rfl; kernel_rfl; kernel_rfl; kernel_rfl
    apply V.Steps.auto; kernel_rfl; kernel_rfl; kernel_rfl; kernel_rfl
    apply V.Steps.auto; kernel_rfl; kernel_rfl; kernel_rfl; kernel_rfl
    apply V.Steps.op; kernel_rfl; kernel_rfl; kernel_rfl; exact ((V.st_cmp (op := .lss) (x := .tmp 53) (y := .tmp 55) (k := .i64) (m := (i : Int)) (n := (L.length : Int)) (r := true) (by kernel_rfl) (by kernel_rfl) (by kernel_rfl) (by simp only [V.cmpI, Option.some.injEq, decide_eq_true_eq]; omega)))
    apply V.Steps.auto; kernel_rfl; kernel_rfl; kernel_rfl; kernel_rfl
    apply V.Steps.auto; kernel_rfl; kernel_rfl; kernel_rfl; kernel_rfl
    apply V.Steps.auto; kernel_rfl; kernel_rfl; kernel_rfl; kernel_rfl
    apply V.Steps.op; kernel_rfl; kernel_rfl; kernel_rfl; exact ((Eq.trans (b := V.opIndexAddr Try.prog (V.getO st) 22 (.dat (.lst L)) (.dat (.int .i64 i))) (by kernel_rfl) (st_addrB hl rfl)))
    apply V.Steps.auto; kernel_rfl; kernel_rfl; kernel_rfl; kernel_rfl
    apply V.Steps.auto; kernel_rfl; kernel_rfl; kernel_rfl; kernel_rfl
    exact V.Steps.done (by kernel_rfl) rfl
  · rfl
  · exact V.AllKept.of_eq (g' := V.getO st) (by kernel_rfl) hc.kept
  · exact Eq.trans (b := (V.refsL (tE (.lst L) k n i t11 .junk 49 (.dat (.bool b)))).all (fun x => (st.map Prod.fst).contains x)) (by kernel_rfl) (refsE hc t11 .junk 49 (.dat (.bool b)) h11 rfl rfl)
  · exact stIds st
  · exact hc.lt
  · kernel_rfl
theorem dg13_out (hc : Cl st nx) (t11 : V.U) (h11 : V.refs t11 = []) {L : List D} (hl : L.length ≤ i) : V.Run Try.prog d13 ⟨tD (.lst L) k n i t11 .junk, st, nx⟩ .normal ⟨tE (.lst L) k n i t11 .junk 49 (.dat (.bool false)), st, nx⟩ := by
  rw [ed13]
  apply V.Run.stepsL (goodE _) regs follows (keep := kE 49) (ids := st.map Prod.fst) (nx := nx) (by rw [← ed13]; exact regsDl.2.2.2.1.1)
  · apply V.Steps.auto; kernel_rfl; kernel_rfl; kernel_rfl; kernel_rfl
    apply V.Steps.auto; kernel_rfl; kernel_rfl; kernel_rfl; kernel_rfl
    apply V.Steps.auto; kernel_rfl; kernel_rfl; kernel_rfl; kernel_rfl
    apply V.Steps.op; kernel_rfl; kernel_rfl; kernel_rfl; exact ((V.st_cmp (op := .lss) (x := .tmp 53) (y := .tmp 55) (k := .i64) (m := (i : Int)) (n := (L.length : Int)) (r := false) (by kernel_rfl) (by kernel_rfl) (by kernel_rfl) (by simp only [V.cmpI, Option.some.injEq, decide_eq_false_iff_not]; omega)))
    apply V.Steps.auto; kernel_rfl; kernel_rfl; kernel_rfl; kernel_rfl
    apply V.Steps.skip; kernel_rfl; kernel_rfl
    apply V.Steps.skip; kernel_rfl; kernel_rfl
    apply V.Steps.skip; kernel_rfl; kernel_rfl
    apply V.Steps.skip; kernel_rfl; kernel_rfl
    apply V.Steps.auto; kernel_rfl; kernel_rfl; kernel_rfl; kernel_rfl
    exact V.Steps.done (by kernel_rfl) rfl
  · rfl
  · exact V.AllKept.of_eq (g' := V.getO st) (by kernel_rfl) hc.kept
  · exact Eq.trans (b := (V.refsL (tE (.lst L) k n i t11 .junk 49 (.dat (.bool false)))).all (fun x => (st.map Prod.fst).contains x)) (by kernel_rfl) (refsE hc t11 .junk 49 (.dat (.bool false)) h11 rfl rfl)
  · exact stIds st
  · exact hc.lt
  · kernel_rfl
theorem dg13_nil (hc : Cl st nx) (t11 : V.U) (h11 : V.refs t11 = [])  : V.Run Try.prog d13 ⟨tD .nil k n i t11 .junk, st, nx⟩ .normal ⟨tE .nil k n i t11 .junk 49 (.dat (.bool false)), st, nx⟩ := by
  rw [ed13]
  apply V.Run.stepsL (goodE _) regs follows (keep := kE 49) (ids := st.map Prod.fst) (nx := nx) (by rw [← ed13]; exact regsDl.2.2.2.1.1)
  · apply V.Steps.auto; kernel_rfl; kernel_rfl; kernel_rfl; kernel_rfl
    apply V.Steps.auto; kernel_rfl; kernel_rfl; kernel_rfl; kernel_rfl
    apply V.Steps.auto; kernel_rfl; kernel_rfl; kernel_rfl; kernel_rfl
    apply V.Steps.op; kernel_rfl; kernel_rfl; kernel_rfl; exact ((V.st_cmp (op := .lss) (x := .tmp 53) (y := .tmp 55) (k := .i64) (m := (i : Int)) (n := 0) (r := false) (by kernel_rfl) (by kernel_rfl) (by kernel_rfl) (by simp only [V.cmpI, Option.some.injEq, decide_eq_false_iff_not]; omega)))
    apply V.Steps.auto; kernel_rfl; kernel_rfl; kernel_rfl; kernel_rfl
    apply V.Steps.skip; kernel_rfl; kernel_rfl
    apply V.Steps.skip; kernel_rfl; kernel_rfl
    apply V.Steps.skip; kernel_rfl; kernel_rfl
    apply V.Steps.skip; kernel_rfl; kernel_rfl
    apply V.Steps.auto; kernel_rfl; kernel_rfl; kernel_rfl; kernel_rfl
    exact V.Steps.done (by kernel_rfl) rfl
  · rfl
  · exact V.AllKept.of_eq (g' := V.getO st) (by kernel_rfl) hc.kept
  · exact Eq.trans (b := (V.refsL (tE .nil k n i t11 .junk 49 (.dat (.bool false)))).all (fun x => (st.map Prod.fst).contains x)) (by kernel_rfl) (refsE hc t11 .junk 49 (.dat (.bool false)) h11 rfl rfl)
  · exact stIds st
  · exact hc.lt
  · kernel_rfl
end
end Go.Proofs.Ytjofhegodknmaaa.Say
