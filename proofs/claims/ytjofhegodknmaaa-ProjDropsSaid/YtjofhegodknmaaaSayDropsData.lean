/- Of a struct just the fields that the other one has stay: what the loop leaves, as data. Mine. -/
import Derived.Test.YtjofhegodknmaaaSayDropsLaw
import Derived.Test.YtjofhegodknmaaaSayDropsEnd
set_option linter.unusedVariables false
set_option linter.unusedSimpArgs false
namespace Go.Proofs.Ytjofhegodknmaaa.Say
open Go Go.RowKit
open V (D)

def Rd (g : Nat → Option V.Obj) (u : V.U) (d : D) : Prop := ∃ rd, V.toD g 40 u = some (d, rd) ∧ rd.all (fun x => !([104, 112, 144] : List Nat).contains x) = true
theorem rdNil {g : Nat → Option V.Obj} {d : D} (h : d = .nil) : Rd g (.dat .nil) d := ⟨[], by rw [h]; rfl, rfl⟩
theorem one_out {o : Nat} (h : ([104, 112, 144] : List Nat).contains o = false) : [o].all (fun x => !([104, 112, 144] : List Nat).contains x) = true := by
  rw [List.all_cons, h]
  rfl
theorem rdX {g : Nat → Option V.Obj} {o a : Nat} {xs : List Int} (hg : g o = some (rowX a xs)) (ha : xs.length = a + 1) (ho : ([104, 112, 144] : List Nat).contains o = false) : Rd g (.own o a 0 (a + 1)) (fds xs) := by
  have h := V.toD_rowR (g := g) (k := 38) (o := o) (gn := a) (s := 10) (ob := rowX a xs) (css := xs.map fdc) hg rfl rfl rfl (by decide) rfl (map_len (f := fdc) (fun _ => rfl) xs)
  rw [List.length_map, ha, List.map_map] at h
  refine ⟨[o], ?_, one_out ho⟩
  rw [h, fds, lst_of (by simp; omega)]
  rfl
theorem rdL {g : Nat → Option V.Obj} {o b : Nat} {n : Int} {vs : List Int} (hg : g o = some (rowL n b vs)) (hb : vs.length = b + 1) (ho : ([104, 112, 144] : List Nat).contains o = false) : Rd g (.own o b 0 (b + 1)) (valsD n vs) := by
  have h := V.toD_rowR (g := g) (k := 38) (o := o) (gn := b) (s := 5) (ob := rowL n b vs) (css := vs.map fun _ => vnc n) hg rfl rfl rfl (by decide) rfl (map_len (f := fun _ => vnc n) (fun _ => rfl) vs)
  rw [List.length_map, hb, List.map_map] at h
  refine ⟨[o], ?_, one_out ho⟩
  rw [h, valsD, lst_of (by simp; omega)]
  rfl
theorem singles (vs : List Int) : (vs.map fun v => [nI v]).flatten = nIs vs := by
  induction vs with
  | nil => rfl
  | cons v r ih => rw [List.map_cons, List.flatten_cons, ih]; rfl
theorem rdI {g : Nat → Option V.Obj} {o b : Nat} {vs : List Int} (hg : g o = some (rowI b vs)) (hb : vs.length = b + 1) (ho : ([104, 112, 144] : List Nat).contains o = false) : Rd g (.own o b 0 (b + 1)) (rowD (nIs vs)) := by
  have h := V.toD_row (g := g) (k := 38) (o := o) (gn := b) (ob := rowI b vs) (l := nIs vs) hg rfl (by rw [← singles]; rfl) rfl rfl
  have hl : (nIs vs).length = b + 1 := by simp [nIs, hb]
  rw [hl] at h
  exact ⟨[o], by rw [h, lst_of (by omega)], one_out ho⟩
theorem Sh.cells {n : Int} {st : V.Store} {nx : Nat} {xs vs ws : List Int} (hs : Sh n st nx xs vs ws) : ∃ uX uL uI wL wI, V.getO st 104 = some (valO [.dat (.int .i64 12), .dat (.int .i64 0), .dat mt, uL, uI]) ∧ V.getO st 112 = some (valO [.dat (.int .i64 12), .dat (.int .i64 0), .dat mt, wL, wI]) ∧ V.getO st 144 = some (xO uX) ∧
    Rd (V.getO st) uX (fds xs) ∧ Rd (V.getO st) uL (valsD n vs) ∧ Rd (V.getO st) uI (rowD (nIs vs)) ∧ Rd (V.getO st) wL (valsD n ws) ∧ Rd (V.getO st) wI (rowD (nIs ws)) := by
  cases hs with
  | s0 => exact ⟨_, _, _, _, _, rfl, rfl, rfl, rdNil rfl, rdNil rfl, rdNil rfl, rdNil rfl, rdNil rfl⟩
  | s1 ha => exact ⟨_, _, _, _, _, rfl, rfl, rfl, rdX rfl ha rfl, rdNil rfl, rdNil rfl, rdNil rfl, rdNil rfl⟩
  | s2 hb => exact ⟨_, _, _, _, _, rfl, rfl, rfl, rdNil rfl, rdL rfl hb rfl, rdI rfl hb rfl, rdNil rfl, rdNil rfl⟩
  | s3 ha hb => exact ⟨_, _, _, _, _, rfl, rfl, rfl, rdX rfl ha rfl, rdL rfl hb rfl, rdI rfl hb rfl, rdNil rfl, rdNil rfl⟩
  | s4 ha hb => exact ⟨_, _, _, _, _, rfl, rfl, rfl, rdX rfl ha rfl, rdL rfl hb rfl, rdI rfl hb rfl, rdNil rfl, rdNil rfl⟩
  | s5 ha hb hc => exact ⟨_, _, _, _, _, rfl, rfl, rfl, rdX rfl ha rfl, rdL rfl hb rfl, rdI rfl hb rfl, rdL rfl hc rfl, rdI rfl hc rfl⟩
  | s6 ha hb hc => exact ⟨_, _, _, _, _, rfl, rfl, rfl, rdX rfl ha rfl, rdL rfl hb rfl, rdI rfl hb rfl, rdL rfl hc rfl, rdI rfl hc rfl⟩
theorem mapM_3 {α β : Type} {f : α → Option β} {a b c : α} {a' b' c' : β} (h1 : f a = some a') (h2 : f b = some b') (h3 : f c = some c') : [a, b, c].mapM f = some [a', b', c'] := by
  simp [List.mapM_cons, h1, h2, h3]
theorem mapM_5 {α β : Type} {f : α → Option β} {a b c d e : α} {a' b' c' d' e' : β} (h1 : f a = some a') (h2 : f b = some b') (h3 : f c = some c') (h4 : f d = some d') (h5 : f e = some e') : [a, b, c, d, e].mapM f = some [a', b', c', d', e'] := by
  simp [List.mapM_cons, h1, h2, h3, h4, h5]
theorem Sh.data {n : Int} {st : V.Store} {nx : Nat} {xs vs ws : List Int} (hs : Sh n st nx xs vs ws) {tm0 tm : List V.U} {c : Code} {st0 : V.Store} {nx0 : Nat} (hr : V.Run Try.prog c ⟨tm0, st0, nx0⟩ .normal ⟨tm, st, nx⟩) (h0 : st0.all (fun p => ([104, 112, 144] : List Nat).contains p.1) = true)
    (hm : V.maskU [false, false, false, false, false, false, false, true, true, true] tm = (ZE n xs vs ws).tm) : V.Run Try.prog c ⟨tm0, st0, nx0⟩ .normal (ZE n xs vs ws) := by
  obtain ⟨uX, uL, uI, wL, wI, g1, g2, g3, ⟨rX, hX, oX⟩, ⟨rL, hL, oL⟩, ⟨rI, hI, oI⟩, ⟨rl, hl, ol⟩, ⟨ri, hi, oi⟩⟩ := hs.cells
  have d1 := V.dataO_of (g := V.getO st) (o := 104) g1 (mapM_5 (a' := (.int .i64 12, [])) (b' := (.int .i64 0, [])) (c' := (mt, [])) rfl rfl rfl hL hI)
  have d2 := V.dataO_of (g := V.getO st) (o := 112) g2 (mapM_5 (a' := (.int .i64 12, [])) (b' := (.int .i64 0, [])) (c' := (mt, [])) rfl rfl rfl hl hi)
  have d3 := V.dataO_of (g := V.getO st) (o := 144) g3 (mapM_3 (a' := (.int .i64 4, [])) (b' := (mt, [])) rfl rfl hX)
  refine V.Run.dataL hr (ids := [104, 112, 144]) (keep := [false, false, false, false, false, false, false, true, true, true]) (nx := 50000) (mapM_3 d1 d2 d3) ?_ (by rw [hm]; kernel_rfl) h0 (by kernel_rfl) hm rfl
  simp only [List.flatMap_cons, List.flatMap_nil, List.nil_append, List.append_nil, List.all_append, oX, oL, oI, ol, oi, Bool.and_true]
end Go.Proofs.Ytjofhegodknmaaa.Say
