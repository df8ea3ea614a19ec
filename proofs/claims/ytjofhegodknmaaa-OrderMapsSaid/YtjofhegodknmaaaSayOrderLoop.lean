/- A map's pairs, however they are handed in, are one map. Mine. -/
import Derived.Test.YtjofhegodknmaaaSayNorm
set_option linter.unusedVariables false
set_option linter.unusedSimpArgs false
namespace Go.Proofs.Ytjofhegodknmaaa.Say
open Go Go.RowKit
open V (D)

noncomputable def oA : Code := match Try.f5.body with
  | some c => c
  | none => .skip
noncomputable def o0 : Code := cf oA
noncomputable def o1 : Code := cf (cj 1 oA)
noncomputable def o3 : Code := cf (cf (cj 2 oA))
noncomputable def o4 : Code := ct (cs (cf (cj 2 oA)))
noncomputable def o5 : Code := cf (cj 3 oA)
noncomputable def o6 : Code := cf (cj 4 oA)
noncomputable def o7 : Code := cf (cf (cj 5 oA))
noncomputable def oLp : Code := cb (cb (cs (cf (cj 5 oA))))
noncomputable def oR : Code := cj 6 oA
noncomputable def o8 : Code := cf (cf oLp)
noncomputable def oB : Code := cb (cf (cs oLp))
noncomputable def o10 : Code := cf (cf oB)
noncomputable def o11 : Code := cf (cs oB)
noncomputable def o12 : Code := cs (cs oB)
noncomputable def o9 : Code := cs (cs oLp)
theorem bodyO : Try.f5.body = some oA := by kernel_rfl
theorem shapeOm : oA = .seq o0 (.seq o1 (.seq (.seq o3 (.cond (.tmp 19) o4 .skip)) (.seq o5 (.seq o6 (.seq (.seq o7 (.block 0 (.loop oLp))) oR))))) := by kernel_rfl
theorem shapeOl : oLp = .seq (.seq o8 (.cond (.tmp 23) .skip (.exit 0))) (.seq (.block 1 (.seq (.seq o10 (.cond (.tmp 32) (.exit 1) .skip)) (.seq o11 o12))) o9) := by kernel_rfl
theorem regsOm : V.Regs o0 ∧ V.Regs o1 ∧ (V.Regs o3 ∧ V.Regs o4 ∧ V.Regs .skip) ∧ V.Regs o5 ∧ V.Regs o6 ∧ (V.Regs o7 ∧ V.Regs oLp) ∧ V.Regs oR := by
  have h := regs 5 Try.f5 oA Try.func5 bodyO
  rw [shapeOm] at h
  exact h
theorem regsOl : (V.Regs o8 ∧ V.Regs .skip ∧ V.Regs (.exit 0)) ∧ ((V.Regs o10 ∧ V.Regs (.exit 1) ∧ V.Regs .skip) ∧ V.Regs o11 ∧ V.Regs o12) ∧ V.Regs o9 := by
  have h := regsOm.2.2.2.2.2.1.2
  rw [shapeOl] at h
  exact h
theorem eo3 : o3 = .region 3 (ops o3) false := by kernel_rfl
theorem eo5 : o5 = .region 5 (ops o5) false := by kernel_rfl
theorem eo6 : o6 = .region 6 (ops o6) false := by kernel_rfl
theorem eo7 : o7 = .region 7 (ops o7) false := by kernel_rfl
theorem eo8 : o8 = .region 8 (ops o8) false := by kernel_rfl
theorem eo9 : o9 = .region 9 (ops o9) false := by kernel_rfl
theorem eo10 : o10 = .region 10 (ops o10) false := by kernel_rfl
theorem eo11 : o11 = .region 11 (ops o11) false := by kernel_rfl
theorem eo12 : o12 = .region 12 (ops o12) false := by kernel_rfl
theorem rowVT : V.RowT Try.prog 25 28 5 80 true := ⟨by kernel_rfl, by kernel_rfl, by kernel_rfl, by kernel_rfl, by decide, by decide⟩
theorem isRowVT : V.isRowT Try.prog 25 = true := by kernel_rfl
theorem i8T : V.sizeT Try.prog 23 = some 1 := by kernel_rfl
theorem i8L : Try.prog.underlying 44 = some (.slice 23) := by kernel_rfl
theorem seenT : Try.prog.underlying 49 = some (.array 256 4) := by kernel_rfl
theorem boolS : V.sizeT Try.prog 4 = some 1 := by kernel_rfl
theorem boolA : V.aggT Try.prog 4 = some false := by kernel_rfl

/-! Single operations. -/
theorem st_addrL {g : Nat → Option V.Obj} {L : List D} {i : Nat} {d : D} (hi : L[i]? = some d) (hd : d.cells.length = 1) : V.opIndexAddr Try.prog g 44 (.dat (.lst L)) (.dat (.int .i64 i)) = some ⟨.dat (.fp d.cells), [], []⟩ := by
  unfold V.opIndexAddr
  simp only [i8L, i8T, Int.toNat_natCast, hi]
  rw [if_pos ⟨by omega, hd, by omega⟩]
theorem st_addrA {g : Nat → Option V.Obj} {o gn : Nat} {x : Int} (h0 : 0 ≤ x) (h1 : x < 256) : V.opIndexAddr Try.prog g 49 (.ptr o gn 0) (.dat (.int .u8 x)) = some ⟨.ptr o gn x.toNat, [], []⟩ := by
  unfold V.opIndexAddr
  simp only [seenT, boolS]
  rw [if_pos ⟨h0, h1⟩]
  simp
def seenO (bs : List Bool) : V.Obj := ⟨49, 256, true, 0, false, bs.map fun b => .dat (.bool b)⟩
theorem seen_refs (bs : List Bool) : V.refsL (seenO bs).cells = [] := by
  have e : (seenO bs).cells = (bs.map D.bool).map V.U.dat := by simp [seenO]
  rw [e]
  exact V.refsL_dats _
theorem st_seen {g : Nat → Option V.Obj} {o : Nat} {bs : List Bool} {x : Nat} {b : Bool} (hg : g o = some (seenO bs)) (hb : bs[x]? = some b) : V.opLoad Try.prog g 4 (.ptr o 0 x) = some ⟨.dat (.bool b), [o], []⟩ := by
  have hx : x < bs.length := (List.getElem?_eq_some_iff.1 hb).1
  unfold V.opLoad
  simp only [hg, boolS, boolA]
  rw [if_pos ⟨rfl, by simp [seenO], by simp [seenO]; omega⟩]
  simp [seenO, hb]
theorem st_mark {g : Nat → Option V.Obj} {o : Nat} {bs : List Bool} {x : Nat} (hg : g o = some (seenO bs)) (hx : x < bs.length) : V.opStore Try.prog g 4 (.ptr o 0 x) (.dat (.bool true)) = some ⟨.undef, [o], [(o, seenO (bs.set x true))]⟩ := by
  have h := V.st_store (P := Try.prog) (g := g) (t := 4) (o' := o) (gn := 0) (p := x) (ob := seenO bs) (d := .bool true) boolS rfl hg rfl (by simp [seenO]) rfl (by simp [seenO]; omega)
  rw [h]
  simp [seenO, List.map_set]

/-! States. -/
def kvc (ps : List (Int × Int)) : List (List D) := ps.flatMap fun p => [[.int .i64 3, dI p.1, mt, .nil, .nil], [.int .i64 8, dI p.2, mt, .nil, .nil]]
theorem kvc_len (ps : List (Int × Int)) : (kvc ps).length = 2 * ps.length := by
  induction ps with
  | nil => rfl
  | cons p r ih => simp only [kvc, List.flatMap_cons, List.length_append, List.length_cons, List.length_nil] at ih ⊢; omega
theorem kvc_five (ps : List (Int × Int)) : ∀ c ∈ kvc ps, c.length = 5 := by
  intro c hc
  obtain ⟨p, _, hp⟩ := List.mem_flatMap.1 hc
  simp only [List.mem_cons, List.not_mem_nil, or_false] at hp
  rcases hp with rfl | rfl <;> rfl
def rowA (g : Nat) (ps : List (Int × Int)) : V.Obj := V.rowOf 28 5 true g (kvc ps)
theorem rowA_refs (g : Nat) (ps : List (Int × Int)) : V.refsL (rowA g ps).cells = [] := V.refsL_dats _
theorem rowA_more (g g' : Nat) (ps : List (Int × Int)) (k v : Int) : (⟨28, 5, true, g', false, (rowA g ps).cells ++ [.dat (.int .i64 3), .dat (dI k), .dat mt, .dat .nil, .dat .nil, .dat (.int .i64 8), .dat (dI v), .dat mt, .dat .nil, .dat .nil]⟩ : V.Obj) = rowA g' (ps ++ [(k, v)]) := by
  simp [rowA, V.rowOf, kvc, dI]
/-- the list so far -/
def lA (ps : List (Int × Int)) : V.U :=
  match ps.length with
  | 0 => .dat .nil
  | q + 1 => .own 1080 q 0 (2 * (q + 1))
def mA' (ps : List (Int × Int)) : V.Store :=
  match ps.length with
  | 0 => []
  | q + 1 => [(1080, rowA q ps)]
def nA (ps : List (Int × Int)) : Nat :=
  match ps.length with
  | 0 => 1000
  | _ + 1 => 2000
def tH (L : List D) (tu : D) (a i t23 t32 : V.U) : List V.U := [.dat (.lst L), .dat tu, .junk, .junk, .junk, .ptr 48 0 0, a, .dat .nil, i] ++ List.replicate 14 .junk ++ [t23] ++ List.replicate 8 .junk ++ [t32] ++ List.replicate 89 .junk
def sH (L : List D) (tu : D) (bs : List Bool) (a : V.U) (more : V.Store) (nx : Nat) (i t23 t32 : V.U) : V.St := ⟨tH L tu a i t23 t32, (48, seenO bs) :: more, nx⟩
def kH : List Bool := [true, true, false, false, false, true, true, true, true]
def kH23 : List Bool := kH ++ List.replicate 14 false ++ [true]
def kH32 : List Bool := kH ++ List.replicate 14 false ++ [false] ++ List.replicate 8 false ++ [true]
def iv (i : Nat) : V.U := .dat (.int .i64 i)
/-- what is beside the marks -/
structure Bes (a : V.U) (more : V.Store) (nx : Nat) : Prop where
  get : ∀ (ob : V.Obj), ∀ p ∈ more, V.getO ((48, ob) :: more) p.1 = some p.2
  refs : ∀ p ∈ more, V.refsL p.2.cells = []
  led : (V.refs a).all (fun x => (48 :: more.map Prod.fst).contains x) = true
  lt : (48 :: more.map Prod.fst).all (fun x => decide (x < nx)) = true
theorem Bes.kept {a : V.U} {more : V.Store} {nx : Nat} (h : Bes a more nx) (bs : List Bool) : V.AllKept (V.getO ((48, seenO bs) :: more)) (48 :: more.map Prod.fst) ((48, seenO bs) :: more) :=
  V.AllKept.cons rfl (congrArg (fun l => List.all l _) (seen_refs bs)) fun p hp => ⟨h.get _ p hp, by rw [h.refs p hp]; rfl⟩
theorem besAll (ob : V.Obj) (more : V.Store) : (((48, ob) :: more : V.Store)).all (fun p => (48 :: more.map Prod.fst).contains p.1) = true := by
  rw [List.all_eq_true]
  intro p hp
  rw [List.contains_iff_mem]
  rcases List.mem_cons.1 hp with rfl | hp
  · simp
  · exact List.mem_cons_of_mem _ (List.mem_map.2 ⟨p, hp, rfl⟩)
theorem besA (ps : List (Int × Int)) : Bes (lA ps) (mA' ps) (nA ps) := by
  unfold lA mA' nA
  cases h : ps.length with
  | zero => exact ⟨fun _ p hp => absurd hp (by simp), fun p hp => absurd hp (by simp), rfl, by kernel_rfl⟩
  | succ q =>
    refine ⟨fun _ p hp => ?_, fun p hp => ?_, rfl, by kernel_rfl⟩
    · simp only [List.mem_cons, List.not_mem_nil, or_false] at hp
      subst hp
      rfl
    · simp only [List.mem_cons, List.not_mem_nil, or_false] at hp
      subst hp
      exact rowA_refs _ _
section
variable {L : List D} {tu : D} {bs : List Bool} {a : V.U} {more : V.Store} {nx : Nat}
theorem refsH (h : Bes a more nx) (i t23 t32 : V.U) (hi : V.refs i = []) (h23 : V.refs t23 = []) (h32 : V.refs t32 = []) : (V.refsL (tH L tu a i t23 t32)).all (fun x => (48 :: more.map Prod.fst).contains x) = true := by
  have e : V.refsL (tH L tu a i t23 t32) = 48 :: V.refs a := by
    simp only [tH, List.cons_append, List.nil_append, V.refsL, V.refs, hi, h23, h32, List.replicate, List.append_nil]
  rw [e, List.all_cons, h.led, Bool.and_true]
  simp
theorem ord8 (h : Bes a more nx) (i : Nat) (r : Bool) (hr : V.cmpI .lss (i : Int) (L.length : Int) = some r) : V.Run Try.prog o8 (sH L tu bs a more nx (iv i) .junk .junk) .normal (sH L tu bs a more nx (iv i) (.dat (.bool r)) .junk) := by
  rw [eo8]
  apply V.Run.stepsL (goodE _) regs follows (keep := kH23) (ids := 48 :: more.map Prod.fst) (nx := nx) (by rw [← eo8]; exact regsOl.1.1)
  · apply V.Steps.auto; kernel_rfl; kernel_rfl; kernel_rfl; kernel_rfl
    apply V.Steps.auto; kernel_rfl; kernel_rfl; kernel_rfl; kernel_rfl
    apply V.Steps.auto; kernel_rfl; kernel_rfl; kernel_rfl; kernel_rfl
    apply V.Steps.op; kernel_rfl; kernel_rfl; kernel_rfl; exact ((V.st_cmp (op := .lss) (x := .tmp 20) (y := .tmp 22) (k := .i64) (m := (i : Int)) (n := (L.length : Int)) (r := r) (by kernel_rfl) (by kernel_rfl) (by kernel_rfl) hr))
    exact V.Steps.done (by kernel_rfl) rfl
  · rfl
  · exact V.AllKept.of_eq (g' := V.getO ((48, seenO bs) :: more)) (by kernel_rfl) (h.kept bs)
  · exact refsH h _ _ _ rfl rfl rfl
  · exact besAll _ _
  · exact h.lt
  · kernel_rfl
theorem ord9 (h : Bes a more nx) (i : Nat) (hi : i < 1000) : V.Run Try.prog o9 (sH L tu bs a more nx (iv i) .junk .junk) .normal (sH L tu bs a more nx (iv (i + 1)) .junk .junk) := by
  rw [eo9]
  apply V.Run.stepsL (goodE _) regs follows (keep := kH) (ids := 48 :: more.map Prod.fst) (nx := nx) (by rw [← eo9]; exact regsOl.2.2)
  · apply V.Steps.auto; kernel_rfl; kernel_rfl; kernel_rfl; kernel_rfl
    apply V.Steps.op; kernel_rfl; kernel_rfl; kernel_rfl; exact ((V.st_ari (op := .add) (x := .tmp 24) (y := .const (.int .i64 1)) (k := .i64) (m := (i : Int)) (n := 1) (r := ((i + 1 : Nat) : Int)) (by kernel_rfl) (by kernel_rfl) (by kernel_rfl) (by simp only [V.ariI, V.wr_i64, Option.some.injEq]; omega)))
    apply V.Steps.auto; kernel_rfl; kernel_rfl; kernel_rfl; kernel_rfl
    exact V.Steps.done (by kernel_rfl) rfl
  · rfl
  · exact V.AllKept.of_eq (g' := V.getO ((48, seenO bs) :: more)) (by kernel_rfl) (h.kept bs)
  · exact refsH h _ _ _ rfl rfl rfl
  · exact besAll _ _
  · exact h.lt
  · kernel_rfl
def u8 (n : Int) : Int := IntKind.u8.wrap n
theorem u8_eq (n : Int) : u8 n = n % 256 := V.wr_u8 n
theorem ord10 (h : Bes a more nx) (i : Nat) {n : Int} (hi : L[i]? = some (.int .i8 n)) {b : Bool} (hb : bs[(u8 n).toNat]? = some b) : V.Run Try.prog o10 (sH L tu bs a more nx (iv i) (.dat (.bool true)) .junk) .normal (sH L tu bs a more nx (iv i) .junk (.dat (.bool b))) := by
  have hu := u8_eq n
  rw [eo10]
  apply V.Run.stepsL (goodE _) regs follows (keep := kH32) (ids := 48 :: more.map Prod.fst) (nx := nx) (by rw [← eo10]; exact regsOl.2.1.1.1)
  · apply V.Steps.auto; kernel_rfl; kernel_rfl; kernel_rfl; kernel_rfl
    apply V.Steps.auto; kernel_rfl; kernel_rfl; kernel_rfl; kernel_rfl
    apply V.Steps.op; kernel_rfl; kernel_rfl; kernel_rfl; exact ((Eq.trans (b := V.opIndexAddr Try.prog (V.getO ((48, seenO bs) :: more)) 44 (.dat (.lst L)) (iv i)) (by kernel_rfl) (st_addrL hi rfl)))
    apply V.Steps.auto; kernel_rfl; kernel_rfl; kernel_rfl; kernel_rfl
    apply V.Steps.op; kernel_rfl; kernel_rfl; kernel_rfl; exact ((V.st_conv (s := 23) (t := 5) (x := .tmp 29) (k := .i8) (j := .u8) (n := n) (sd := .int .i8) (by kernel_rfl) (by kernel_rfl) (by kernel_rfl) (by kernel_rfl)))
    apply V.Steps.op; kernel_rfl; kernel_rfl; kernel_rfl; exact ((Eq.trans (b := V.opIndexAddr Try.prog (V.getO ((48, seenO bs) :: more)) 49 (.ptr 48 0 0) (.dat (.int .u8 (u8 n)))) (by kernel_rfl) (st_addrA (by omega) (by omega))))
    apply V.Steps.op; kernel_rfl; kernel_rfl; kernel_rfl; exact ((Eq.trans (b := V.opLoad Try.prog (V.getO ((48, seenO bs) :: more)) 4 (.ptr 48 0 (u8 n).toNat)) (by kernel_rfl) (st_seen rfl hb)))
    exact V.Steps.done (by kernel_rfl) rfl
  · rfl
  · exact V.AllKept.of_eq (g' := V.getO ((48, seenO bs) :: more)) (by kernel_rfl) (h.kept bs)
  · exact refsH h _ _ _ rfl rfl rfl
  · exact besAll _ _
  · exact h.lt
  · kernel_rfl
theorem ord11 (h : Bes a more nx) (i : Nat) {n : Int} (hi : L[i]? = some (.int .i8 n)) (hl : bs.length = 256) : V.Run Try.prog o11 (sH L tu bs a more nx (iv i) .junk (.dat (.bool false))) .normal (sH L tu (bs.set (u8 n).toNat true) a more nx (iv i) .junk .junk) := by
  have hu := u8_eq n
  rw [eo11]
  apply V.Run.stepsL (goodE _) regs follows (keep := kH) (ids := 48 :: more.map Prod.fst) (nx := nx) (by rw [← eo11]; exact regsOl.2.1.2.1)
  · apply V.Steps.auto; kernel_rfl; kernel_rfl; kernel_rfl; kernel_rfl
    apply V.Steps.auto; kernel_rfl; kernel_rfl; kernel_rfl; kernel_rfl
    apply V.Steps.op; kernel_rfl; kernel_rfl; kernel_rfl; exact ((Eq.trans (b := V.opIndexAddr Try.prog (V.getO ((48, seenO bs) :: more)) 44 (.dat (.lst L)) (iv i)) (by kernel_rfl) (st_addrL hi rfl)))
    apply V.Steps.auto; kernel_rfl; kernel_rfl; kernel_rfl; kernel_rfl
    apply V.Steps.op; kernel_rfl; kernel_rfl; kernel_rfl; exact ((V.st_conv (s := 23) (t := 5) (x := .tmp 36) (k := .i8) (j := .u8) (n := n) (sd := .int .i8) (by kernel_rfl) (by kernel_rfl) (by kernel_rfl) (by kernel_rfl)))
    apply V.Steps.op; kernel_rfl; kernel_rfl; kernel_rfl; exact ((Eq.trans (b := V.opIndexAddr Try.prog (V.getO ((48, seenO bs) :: more)) 49 (.ptr 48 0 0) (.dat (.int .u8 (u8 n)))) (by kernel_rfl) (st_addrA (by omega) (by omega))))
    apply V.Steps.op; kernel_rfl; kernel_rfl; kernel_rfl; exact ((Eq.trans (b := V.opStore Try.prog (V.getO ((48, seenO bs) :: more)) 4 (.ptr 48 0 (u8 n).toNat) (.dat (.bool true))) (by kernel_rfl) (st_mark rfl (by omega))))
    exact V.Steps.done (by kernel_rfl) rfl
  · rfl
  · exact V.AllKept.of_eq (g' := V.getO ((48, seenO (bs.set (u8 n).toNat true)) :: more)) (by kernel_rfl) (h.kept (bs.set (u8 n).toNat true))
  · exact refsH h _ _ _ rfl rfl rfl
  · exact besAll _ _
  · exact h.lt
  · kernel_rfl
end
theorem i8_64 (n : Int) (h0 : -128 ≤ n) (h1 : n ≤ 127) : IntKind.i64.wrap n = n := by rw [V.wr_i64]; omega
theorem ord12a {L : List D} {tu : D} {bs : List Bool} (i : Nat) {n : Int} (hi : L[i]? = some (.int .i8 n)) (h0 : -128 ≤ n) (h1 : n ≤ 127) : V.Run Try.prog o12 (sH L tu bs (.dat .nil) [] 1000 (iv i) .junk .junk) .normal (sH L tu bs (.own 1080 0 0 2) [(1080, rowA 0 [(n, i)])] 2000 (iv i) .junk .junk) := by
  have hB : Bes (.own 1080 0 0 2) [(1080, rowA 0 [(n, (i : Int))])] 2000 := ⟨fun _ p hp => by simp only [List.mem_cons, List.not_mem_nil, or_false] at hp; subst hp; rfl, fun p hp => by simp only [List.mem_cons, List.not_mem_nil, or_false] at hp; subst hp; exact rowA_refs _ _, rfl, by kernel_rfl⟩
  rw [eo12]
  apply V.Run.stepsL (goodE _) regs follows (keep := kH) (ids := [48, 1080]) (nx := 2000) (by rw [← eo12]; exact regsOl.2.1.2.2)
  · apply V.Steps.auto; kernel_rfl; kernel_rfl; kernel_rfl; kernel_rfl
    apply V.Steps.auto; kernel_rfl; kernel_rfl; kernel_rfl; kernel_rfl
    apply V.Steps.auto; kernel_rfl; kernel_rfl; kernel_rfl; kernel_rfl
    apply V.Steps.op; kernel_rfl; kernel_rfl; kernel_rfl; exact ((Eq.trans (b := V.opIndexAddr Try.prog (V.getO [(48, seenO bs)]) 44 (.dat (.lst L)) (iv i)) (by kernel_rfl) (st_addrL hi rfl)))
    apply V.Steps.auto; kernel_rfl; kernel_rfl; kernel_rfl; kernel_rfl
    apply V.Steps.op; kernel_rfl; kernel_rfl; kernel_rfl; exact ((V.st_conv (s := 23) (t := 2) (x := .tmp 43) (k := .i8) (j := .i64) (n := n) (sd := .int .i8) (by kernel_rfl) (by kernel_rfl) (by kernel_rfl) (by kernel_rfl)))
    apply V.Steps.auto; kernel_rfl; kernel_rfl; kernel_rfl; kernel_rfl
    apply V.Steps.auto; kernel_rfl; kernel_rfl; kernel_rfl; kernel_rfl
    apply V.Steps.auto; kernel_rfl; kernel_rfl; kernel_rfl; kernel_rfl
    apply V.Steps.auto; kernel_rfl; kernel_rfl; kernel_rfl; kernel_rfl
    apply V.Steps.auto; kernel_rfl; kernel_rfl; kernel_rfl; kernel_rfl
    apply V.Steps.auto; kernel_rfl; kernel_rfl; kernel_rfl; kernel_rfl
    exact V.Steps.done (by kernel_rfl) rfl
  · rfl
  · exact V.AllKept.cons (by kernel_rfl) (congrArg (fun l => List.all l _) (seen_refs bs)) (V.AllKept.cons (ob := rowA 0 [(n, (i : Int))]) (Eq.trans (b := some (rowA 0 [(IntKind.i64.wrap n, (i : Int))])) (by kernel_rfl) (by rw [i8_64 n h0 h1])) (congrArg (fun l => List.all l _) (rowA_refs 0 _)) V.AllKept.nil)
  · kernel_rfl
  · kernel_rfl
  · kernel_rfl
  · kernel_rfl
theorem ord12b {L : List D} {tu : D} {bs : List Bool} (i : Nat) {n : Int} (hi : L[i]? = some (.int .i8 n)) (h0 : -128 ≤ n) (h1 : n ≤ 127) (ps : List (Int × Int)) (q : Nat) (hq : ps.length = q + 1) (hq10 : q < 1000) :
    V.Run Try.prog o12 (sH L tu bs (.own 1080 q 0 (2 * (q + 1))) [(1080, rowA q ps)] 2000 (iv i) .junk .junk) .normal (sH L tu bs (.own 1080 (q + 1) 0 (2 * (q + 1) + 2)) [(1080, rowA (q + 1) (ps ++ [(n, (i : Int))]))] 2000 (iv i) .junk .junk) := by
  have hB : Bes (.own 1080 (q + 1) 0 (2 * (q + 1) + 2)) [(1080, rowA (q + 1) (ps ++ [(n, (i : Int))]))] 2000 := ⟨fun _ p hp => by simp only [List.mem_cons, List.not_mem_nil, or_false] at hp; subst hp; rfl, fun p hp => by simp only [List.mem_cons, List.not_mem_nil, or_false] at hp; subst hp; exact rowA_refs _ _, rfl, by kernel_rfl⟩
  have hlen : 2 * (q + 1) * 5 = (rowA q ps).cells.length := by
    simp only [rowA, V.rowOf, List.length_map, V.flatten_length (kvc_five ps), kvc_len, hq]
  rw [eo12]
  apply V.Run.stepsL (goodE _) regs follows (keep := kH) (ids := [48, 1080]) (nx := 2000) (by rw [← eo12]; exact regsOl.2.1.2.2)
  · apply V.Steps.auto; kernel_rfl; kernel_rfl; kernel_rfl; kernel_rfl
    apply V.Steps.auto; kernel_rfl; kernel_rfl; kernel_rfl; kernel_rfl
    apply V.Steps.auto; kernel_rfl; kernel_rfl; kernel_rfl; kernel_rfl
    apply V.Steps.op; kernel_rfl; kernel_rfl; kernel_rfl; exact ((Eq.trans (b := V.opIndexAddr Try.prog (V.getO [(48, seenO bs), (1080, rowA q ps)]) 44 (.dat (.lst L)) (iv i)) (by kernel_rfl) (st_addrL hi rfl)))
    apply V.Steps.auto; kernel_rfl; kernel_rfl; kernel_rfl; kernel_rfl
    apply V.Steps.op; kernel_rfl; kernel_rfl; kernel_rfl; exact ((V.st_conv (s := 23) (t := 2) (x := .tmp 43) (k := .i8) (j := .i64) (n := n) (sd := .int .i8) (by kernel_rfl) (by kernel_rfl) (by kernel_rfl) (by kernel_rfl)))
    apply V.Steps.auto; kernel_rfl; kernel_rfl; kernel_rfl; kernel_rfl
    apply V.Steps.auto; kernel_rfl; kernel_rfl; kernel_rfl; kernel_rfl
    apply V.Steps.auto; kernel_rfl; kernel_rfl; kernel_rfl; kernel_rfl
    apply V.Steps.auto; kernel_rfl; kernel_rfl; kernel_rfl; kernel_rfl
    apply V.Steps.op; kernel_rfl; kernel_rfl; kernel_rfl; exact ((Eq.trans (b := V.opAppend Try.prog (V.getO [(48, seenO bs), (1080, rowA q ps), (2072, ⟨28, 5, true, 0, false, [.dat (.int .i64 3), .dat (dI (IntKind.i64.wrap n)), .dat mt, .dat .nil, .dat .nil, .dat (.int .i64 8), .dat (dI (i : Int)), .dat mt, .dat .nil, .dat .nil]⟩)]) 2080 25 25 (.own 1080 q 0 (2 * (q + 1))) (.own 2072 0 0 2)) (by kernel_rfl) (V.st_appendR (s := 5) (xs := [.dat (.int .i64 3), .dat (dI (IntKind.i64.wrap n)), .dat mt, .dat .nil, .dat .nil, .dat (.int .i64 8), .dat (dI (i : Int)), .dat mt, .dat .nil, .dat .nil]) (m := 2) (rd := [2072]) (ob := rowA q ps) rowVT isRowVT (by kernel_rfl) (by decide) rfl rfl rfl rfl hlen (by omega))))
    apply V.Steps.auto; kernel_rfl; kernel_rfl; kernel_rfl; kernel_rfl
    exact V.Steps.done (by kernel_rfl) rfl
  · rfl
  · exact V.AllKept.cons (by kernel_rfl) (congrArg (fun l => List.all l _) (seen_refs bs)) (V.AllKept.cons (ob := rowA (q + 1) (ps ++ [(n, (i : Int))])) (Eq.trans (b := some ⟨28, 5, true, q + 1, false, (rowA q ps).cells ++ [.dat (.int .i64 3), .dat (dI (IntKind.i64.wrap n)), .dat mt, .dat .nil, .dat .nil, .dat (.int .i64 8), .dat (dI (i : Int)), .dat mt, .dat .nil, .dat .nil]⟩) (by kernel_rfl) (by rw [i8_64 n h0 h1, rowA_more q (q + 1) ps n i])) (congrArg (fun l => List.all l _) (rowA_refs _ _)) V.AllKept.nil)
  · kernel_rfl
  · kernel_rfl
  · kernel_rfl
  · kernel_rfl
/-- what is known after so many numbers -/
structure Inv (bs : List Bool) (ps : List (Int × Int)) (i : Nat) : Prop where
  len : bs.length = 256
  mark : ∀ p ∈ ps, -128 ≤ p.1 ∧ p.1 ≤ 127 ∧ bs[(u8 p.1).toNat]? = some true
  unlike : ps.Pairwise fun a b => a.1 ≠ b.1
  few : ps.length ≤ i
/-- the state at the loop's head -/
def HO (L : List D) (tu : D) (bs : List Bool) (ps : List (Int × Int)) (i : Nat) : V.St := sH L tu bs (lA ps) (mA' ps) (nA ps) (iv i) .junk .junk
theorem lA_more (ps : List (Int × Int)) (p : Int × Int) (q : Nat) (hq : ps.length = q) : lA (ps ++ [p]) = .own 1080 q 0 (2 * (q + 1)) ∧ mA' (ps ++ [p]) = [(1080, rowA q (ps ++ [p]))] ∧ nA (ps ++ [p]) = 2000 := by
  have h : (ps ++ [p]).length = q + 1 := by simp [hq]
  unfold lA mA' nA
  rw [h]
  exact ⟨rfl, rfl, rfl⟩
theorem ordRound {l : List Int} (hr : ∀ n ∈ l, -128 ≤ n ∧ n ≤ 127) (hl : l.length ≤ 10) (tu : D) {bs : List Bool} {ps : List (Int × Int)} {i : Nat} (hI : Inv bs ps i) (hi : i < l.length) :
    ∃ bs' ps', Inv bs' ps' (i + 1) ∧ V.Run Try.prog oLp (HO (l.map (.int .i8)) tu bs ps i) .normal (HO (l.map (.int .i8)) tu bs' ps' (i + 1)) := by
  have hn := hr l[i] (List.getElem_mem hi)
  have hL : (l.map (D.int .i8))[i]? = some (.int .i8 l[i]) := by simp [hi]
  have hu := u8_eq l[i]
  have hx : (u8 l[i]).toNat < bs.length := by rw [hI.len]; omega
  have hb := besA ps
  have r8 := ord8 (L := l.map (.int .i8)) (tu := tu) (bs := bs) hb i true (V.c_lssT (by rw [List.length_map]; omega))
  have c8 : V.Run Try.prog (.cond (.tmp 23) .skip (.exit 0)) (sH (l.map (.int .i8)) tu bs (lA ps) (mA' ps) (nA ps) (iv i) (.dat (.bool true)) .junk) .normal _ := V.Run.cond_true rfl (V.Run.skip (goodE V.sig0) regs follows)
  obtain ⟨b, hbx⟩ : ∃ b, bs[(u8 l[i]).toNat]? = some b := ⟨_, List.getElem?_eq_getElem hx⟩
  have r10 := ord10 (L := l.map (.int .i8)) (tu := tu) (bs := bs) hb i hL hbx
  cases b with
  | true =>
    refine ⟨bs, ps, ⟨hI.len, hI.mark, hI.unlike, by have := hI.few; omega⟩, ?_⟩
    have c10 : V.Run Try.prog (.cond (.tmp 32) (.exit 1) .skip) (sH (l.map (.int .i8)) tu bs (lA ps) (mA' ps) (nA ps) (iv i) .junk (.dat (.bool true))) (.exit 1) _ := V.Run.cond_true rfl (V.Run.exit (goodE V.sig0) regs follows)
    have rB := V.Run.block_to (id := 1) (V.Run.seq_out (d := .seq o11 o12) (V.Run.seq r10 c10) (by simp))
    -- the state keeps the bool: it is dropped
    have rB' : V.Run Try.prog (.block 1 (.seq (.seq o10 (.cond (.tmp 32) (.exit 1) .skip)) (.seq o11 o12))) (sH (l.map (.int .i8)) tu bs (lA ps) (mA' ps) (nA ps) (iv i) (.dat (.bool true)) .junk) .normal (sH (l.map (.int .i8)) tu bs (lA ps) (mA' ps) (nA ps) (iv i) .junk .junk) :=
      V.Run.weakL rB (keep := kH) (ids := 48 :: (mA' ps).map Prod.fst) rfl (hb.kept bs) (refsH hb _ _ _ rfl rfl rfl) (besAll _ _) hb.lt (by kernel_rfl)
    have r9 := ord9 (L := l.map (.int .i8)) (tu := tu) (bs := bs) hb i (by omega)
    rw [shapeOl]
    exact V.Run.seq (V.Run.seq r8 c8) (V.Run.seq rB' r9)
  | false =>
    have hnew : ∀ p ∈ ps, p.1 ≠ l[i] := by
      intro p hp e
      have := (hI.mark p hp).2.2
      rw [e, hbx] at this
      simp at this
    refine ⟨bs.set (u8 l[i]).toNat true, ps ++ [(l[i], (i : Int))], ⟨by rw [List.length_set]; exact hI.len, fun p hp => ?_, ?_, by have := hI.few; simp; omega⟩, ?_⟩
    · rcases List.mem_append.1 hp with hp | hp
      · obtain ⟨a, b, c⟩ := hI.mark p hp
        refine ⟨a, b, ?_⟩
        rw [List.getElem?_set]
        split
        · simp [hx]
        · exact c
      · simp only [List.mem_cons, List.not_mem_nil, or_false] at hp
        subst hp
        exact ⟨hn.1, hn.2, by simp [hx]⟩
    · refine List.pairwise_append.2 ⟨hI.unlike, by simp, fun a ha b hb => ?_⟩
      simp only [List.mem_cons, List.not_mem_nil, or_false] at hb
      subst hb
      exact hnew a ha
    · have c10 : V.Run Try.prog (.cond (.tmp 32) (.exit 1) .skip) (sH (l.map (.int .i8)) tu bs (lA ps) (mA' ps) (nA ps) (iv i) .junk (.dat (.bool false))) .normal _ := V.Run.cond_false rfl (V.Run.skip (goodE V.sig0) regs follows)
      have r11 := ord11 (L := l.map (.int .i8)) (tu := tu) (bs := bs) hb i hL hI.len
      obtain ⟨e1, e2, e3⟩ := lA_more ps (l[i], (i : Int)) ps.length rfl
      have r12 : V.Run Try.prog o12 (sH (l.map (.int .i8)) tu (bs.set (u8 l[i]).toNat true) (lA ps) (mA' ps) (nA ps) (iv i) .junk .junk) .normal (sH (l.map (.int .i8)) tu (bs.set (u8 l[i]).toNat true) (lA (ps ++ [(l[i], (i : Int))])) (mA' (ps ++ [(l[i], (i : Int))])) (nA (ps ++ [(l[i], (i : Int))])) (iv i) .junk .junk) := by
        rw [e1, e2, e3]
        cases hq : ps.length with
        | zero =>
          obtain rfl := List.length_eq_zero_iff.1 hq
          exact ord12a i hL hn.1 hn.2
        | succ q =>
          have e1' : lA ps = .own 1080 q 0 (2 * (q + 1)) := by unfold lA; rw [hq]
          have e2' : mA' ps = [(1080, rowA q ps)] := by unfold mA'; rw [hq]
          have e3' : nA ps = 2000 := by unfold nA; rw [hq]
          rw [e1', e2', e3']
          exact ord12b i hL hn.1 hn.2 ps q hq (by have := hI.few; omega)
      have hb' := besA (ps ++ [(l[i], (i : Int))])
      have r9 := ord9 (L := l.map (.int .i8)) (tu := tu) (bs := bs.set (u8 l[i]).toNat true) hb' i (by omega)
      rw [shapeOl]
      exact V.Run.seq (V.Run.seq r8 c8) (V.Run.seq (V.Run.block (id := 1) (V.Run.seq (V.Run.seq r10 c10) (V.Run.seq r11 r12))) r9)
theorem ordLoop {l : List Int} (hr : ∀ n ∈ l, -128 ≤ n ∧ n ≤ 127) (hl : l.length ≤ 10) (tu : D) : ∀ (m i : Nat) (bs : List Bool) (ps : List (Int × Int)), i + m = l.length → Inv bs ps i →
    ∃ bs' ps', Inv bs' ps' l.length ∧ V.LRun Try.prog oLp (HO (l.map (.int .i8)) tu bs ps i) (.exit 0) (sH (l.map (.int .i8)) tu bs' (lA ps') (mA' ps') (nA ps') (iv l.length) (.dat (.bool false)) .junk) := by
  intro m
  induction m with
  | zero =>
    intro i bs ps hi hI
    obtain rfl : i = l.length := by omega
    refine ⟨bs, ps, hI, ?_⟩
    have r8 := ord8 (L := l.map (.int .i8)) (tu := tu) (bs := bs) (besA ps) l.length false (V.c_lssF (by rw [List.length_map]; omega))
    have c8 : V.Run Try.prog (.cond (.tmp 23) .skip (.exit 0)) (sH (l.map (.int .i8)) tu bs (lA ps) (mA' ps) (nA ps) (iv l.length) (.dat (.bool false)) .junk) (.exit 0) _ := V.Run.cond_false rfl (V.Run.exit (goodE V.sig0) regs follows)
    rw [shapeOl]
    exact V.LRun.out (V.Run.seq_out (V.Run.seq r8 c8) (by simp)) (by simp)
  | succ m ih =>
    intro i bs ps hi hI
    obtain ⟨bs1, ps1, hI1, r⟩ := ordRound hr hl tu hI (by omega)
    obtain ⟨bs', ps', hI', hL⟩ := ih (i + 1) bs1 ps1 (by omega) hI1
    exact ⟨bs', ps', hI', V.LRun.step r hL⟩
end Go.Proofs.Ytjofhegodknmaaa.Say
