/- W, 10: values built, addresses, parts of rows. To: W, 20: regions. -/
import Derived.Test.YtjofhegodknmaaaGreatGd
set_option linter.unusedSimpArgs false
set_option linter.unusedVariables false
namespace Go.Proofs.YtjofhegodknmaaaGreat.W
open Go Go.RowKit
open V hiding At
section
variable {P : Program} {CR : Nat → List D → List D → Prop}
inductive Pts (env : List D) (ι : Pl) : List (Nat × SU) → List (Nat × U) → Prop
  | nil : Pts env ι [] []
  | cons {i : Nat} {u : SU} {x : U} {r : List (Nat × SU)} {q : List (Nat × U)} (h : DU env ι u x) (h' : Pts env ι r q) : Pts env ι ((i, u) :: r) ((i, x) :: q)
theorem parts_ok {env : List D} {ι : Pl} {ts : List SU} {tm : List U} (h : DUs env ι ts tm) : ∀ {l : List (Nat × Operand)} {ps : List (Nat × SU)}, l.mapM (fun (p : Nat × Operand) => (evalS ts p.2).map fun u => (p.1, u)) = some ps →
    ∃ qs, l.mapM (fun (p : Nat × Operand) => (evalU tm p.2).map fun u => (p.1, u)) = some qs ∧ Pts env ι ps qs
  | [], ps, hp => by
    simp at hp
    subst hp
    exact ⟨[], rfl, .nil⟩
  | (i, x) :: r, ps, hp => by
    rw [List.mapM_cons] at hp
    cases hx : evalS ts x with
    | none => simp [hx] at hp
    | some u =>
      cases hr : r.mapM (fun (p : Nat × Operand) => (evalS ts p.2).map fun u => (p.1, u)) with
      | none => simp [hx, hr] at hp
      | some l =>
        simp [hx, hr] at hp
        subst hp
        obtain ⟨y, hy, hdu⟩ := evalS_ok h hx
        obtain ⟨qs, hq, hpt⟩ := parts_ok h hr
        refine ⟨(i, y) :: qs, ?_, .cons hdu hpt⟩
        rw [List.mapM_cons, hq]
        simp [hy]
theorem fillS_sp {place : Nat → Option (Nat × Nat)} : ∀ {ps : List (Nat × SU)} {cells : List SU} {e : Em} {r : List SU × Em}, fillS P place cells e ps = some r →
    Sp P CR e r.2 fun env => ∀ ι us qs, DUs env ι cells us → Pts env ι ps qs → (∀ u ∈ us, u.one = true) → ∃ us', fillU place us qs = some us' ∧ DUs env ι r.1 us' ∧ (∀ u ∈ us', u.one = true) ∧ us'.length = us.length
  | [], cells, e, r, h => by
    simp only [fillS, Option.some.injEq] at h
    subst h
    refine Sp.refl fun env _ ι us qs hu hp ho => ?_
    cases hp
    exact ⟨us, rfl, hu, ho, rfl⟩
  | (i, v) :: rest, cells, e, r, h => by
    simp only [fillS] at h
    split at h
    · simp at h
    · rename_i off size hpl
      split at h
      · rename_i cs e1 hcs
        split at h
        · rename_i hle
          refine Sp.then (cellsS_sp hcs) (fillS_sp h) fun env q1 q2 ι us qs hu hp ho => ?_
          cases hp with
          | cons hx hr =>
            rename_i x q
            obtain ⟨h1, h2, h3⟩ := q1 ι x hx
            have h4 : off + size ≤ us.length := by rw [hu.1]; exact Nat.le_of_ble_eq_true hle
            obtain ⟨us', h5, h6, h7, h8⟩ := q2 ι (splice us off x.cells) q (splice_dus hu h1 off) hr (splice_one ho h3 off)
            refine ⟨us', ?_, h6, h7, by rw [h8, splice_len (by omega)]⟩
            simp only [fillU, hpl]
            rw [if_pos ⟨h2, h4, List.all_eq_true.2 h3⟩]
            exact h5
        · simp at h
      · simp at h
theorem const1_one {v : Value} {d : D} (h : const1 v = some d) : d.one = true := by
  unfold const1 at h
  split at h <;> first
    | (simp at h; done)
    | (obtain rfl := Option.some.inj h; rfl)
    | (split at h <;> first | (simp at h; done) | (obtain rfl := Option.some.inj h; rfl))
theorem zeroT_one {t : TypeId} {z : List D} (h : zeroT P t = some z) : ∀ d ∈ z, d.one = true := by
  unfold zeroT at h
  split at h
  · split at h
    · intro d hd
      obtain ⟨i, hi⟩ := List.getElem?_of_mem hd
      obtain ⟨x, _, hx⟩ := mapM_back h hi
      exact const1_one hx
    · simp at h
  · simp at h
theorem dats_one {z : List D} (h : ∀ d ∈ z, d.one = true) : ∀ u ∈ z.map U.dat, u.one = true := by
  intro u hu
  obtain ⟨d, hd, rfl⟩ := List.mem_map.1 hu
  exact h d hd
theorem sBuild_ok {S : SSt} {e : Em} {t : TypeId} {parts : Array (Nat × Operand)} {r : SR} (h : sBuild P S e t parts = some r) : OpSp P CR S e r (fun g id tm => opBuild P tm t parts) := by
  unfold sBuild at h
  split at h
  · rename_i z ps hz hps
    split at h
    · rename_i fs hu
      split at h
      · rename_i places hpl
        obtain ⟨w, hw, rfl⟩ := Option.map_eq_some_iff.1 h
        refine (fillS_sp hw).mono fun env _ q τ ι tm g id H hd hH hid => ?_
        obtain ⟨qs, hq, hpt⟩ := parts_ok hd.tm hps
        obtain ⟨us', h1, h2, h3, _⟩ := q ι _ qs (DUs.consts z) hpt (dats_one (zeroT_one hz))
        refine ⟨⟨mkAgg us', [], []⟩, ?_, OpPost.pure hd hH (.agg h2.1 h2.2 h3) Rd.nil⟩
        unfold opBuild partsU
        rw [hz]
        simp only [hq, hu, hpl, h1, Option.map_some]
      · simp at h
    · rename_i len el hu
      split at h
      · rename_i n hn
        obtain ⟨w, hw, rfl⟩ := Option.map_eq_some_iff.1 h
        refine (fillS_sp hw).mono fun env _ q τ ι tm g id H hd hH hid => ?_
        obtain ⟨qs, hq, hpt⟩ := parts_ok hd.tm hps
        obtain ⟨us', h1, h2, h3, _⟩ := q ι _ qs (DUs.consts z) hpt (dats_one (zeroT_one hz))
        refine ⟨⟨mkAgg us', [], []⟩, ?_, OpPost.pure hd hH (.agg h2.1 h2.2 h3) Rd.nil⟩
        unfold opBuild partsU
        rw [hz]
        simp only [hq, hu, hn, h1, Option.map_some]
      · simp at h
    · simp at h
  · simp at h
theorem repeat_dus {env : List D} {ι : Pl} {z : List D} : ∀ n : Nat, DUs env ι (repeatS z n) (repeatD z n)
  | 0 => DUs.nil
  | n + 1 => (DUs.consts z).app (repeat_dus n)
theorem repeat_one {z : List D} (h : ∀ d ∈ z, d.one = true) : ∀ n : Nat, ∀ u ∈ repeatD z n, u.one = true
  | 0, u, hu => by simp [repeatD] at hu
  | n + 1, u, hu => by
    simp only [repeatD] at hu
    rcases List.mem_append.1 hu with hu | hu
    · exact dats_one h u hu
    · exact repeat_one h n u hu
theorem repeat_len {z : List D} : ∀ n : Nat, (repeatD z n).length = n * z.length
  | 0 => by simp [repeatD]
  | n + 1 => by simp only [repeatD, List.length_append, List.length_map, repeat_len n, Nat.succ_mul]; omega
theorem sizeT_info {el : TypeId} {i : TypeInfo} (h : P.info? el = some i) : sizeT P el = some i.size := by simp only [sizeT, h, Option.map_some]
theorem sBuildSlice_ok {S : SSt} {e : Em} {t : TypeId} {len : Nat} {parts : Array (Nat × Operand)} {r : SR} (h : sBuildSlice P S e t len parts = some r) : OpSp P CR S e r (fun g id tm => opBuildSlice P id tm t len parts) := by
  unfold sBuildSlice at h
  split at h
  · rename_i el ps hu hps
    split at h
    · rename_i i a z hi ha hz
      split at h
      · rename_i hc
        simp only [Bool.and_eq_true, Bool.or_eq_true] at hc
        obtain ⟨⟨⟨c1, c2⟩, c3⟩, c4⟩ := hc
        have c1 := Nat.le_of_ble_eq_true c1
        have c2 := Nat.eq_of_beq_eq_true c2
        have c3 := Nat.le_of_ble_eq_true c3
        split at h
        · rename_i cs e1 hw
          obtain rfl := Option.some.inj h
          refine (fillS_sp hw).mono fun env _ q τ ι tm g id H hd hH hid => ?_
          obtain ⟨qs, hq, hpt⟩ := parts_ok hd.tm hps
          obtain ⟨us', h1, h2, h3, h4⟩ := q ι _ qs (repeat_dus len) hpt (repeat_one (zeroT_one hz) len)
          refine ⟨⟨.own id 0 0 len, [], [(id, ⟨el, i.size, a, 0, false, us'⟩)]⟩, ?_, ?_⟩
          · unfold opBuildSlice partsU
            rw [hu]
            simp only [hq, sizeT_info hi, ha, hz, h1]
            rw [if_pos ⟨by omega, c2, c3⟩]
            rfl
          · have h5 : us'.length = len * i.size := by rw [h4, repeat_len, c2]
            refine new_post hd hH hid (c := ⟨id, 0, [], len⟩) rfl (fun ι' h6 hf => ?_) (fun ι' h6 hf => ?_) Rd.nil (by simp)
            · exact .row (.c (.lst [])) _ ⟨el, i.size, a, 0, false, us'⟩ us' rfl h6 (by rw [updF_one, if_pos rfl]) rfl rfl rfl rfl (by simp only; omega) (by rcases c4 with c4 | c4; exact .inl c4; exact .inr (Nat.eq_of_beq_eq_true c4)) (by simp) (.inl rfl) (by simp) (by simp) (h2.fw hf) h3 h5 (by simp)
            · have := DU.own (env := env) h6
              simpa using this
        · simp at h
      · simp at h
    · simp at h
  · simp at h
theorem sFieldAddr_ok {S : SSt} {e : Em} {s : TypeId} {f : Nat} {u : SU} {r : SR} (h : sFieldAddr P S e s f u = some r) :
    Sp P CR e r.e fun env => ∀ τ ι tm g id H, Den τ env ι S tm g → HOk ι H → g id = none → ∀ x, DU env ι u x → ∃ res, opFieldAddr P s f x = some res ∧ OpPost τ env r.S r.u r.rd r.up tm g id H res := by
  unfold sFieldAddr at h
  split at h
  · rename_i fd hfd
    split at h
    · rename_i n sz hn hsz
      split at h
      · simp at h
      · rename_i hn0
        have hn0 : ¬ n = 0 := fun e => hn0 (by rw [e]; rfl)
        cases u with
        | «at» a =>
          simp only at h
          obtain ⟨w, hw, rfl⟩ := Option.map_eq_some_iff.1 h
          refine (deref_sp hw).mono fun env _ q τ ι tm g id H hd hH hid x hx => ?_
          cases hx with
          | «at» ha =>
            obtain ⟨cs, rfl, h1, h2⟩ := q _ ha
            refine ⟨⟨.dat (.fp (cs.drop fd.offset)), [], []⟩, ?_, OpPost.pure hd hH (DU.fp h2 h1) Rd.nil⟩
            simp only [opFieldAddr, hfd, hn, if_neg hn0]
        | ptr o p =>
          simp only [Option.some.injEq] at h
          subst h
          refine Sp.refl fun env _ τ ι tm g id H hd hH hid x hx => ?_
          cases hx with
          | ptr hι =>
            refine ⟨_, ?_, OpPost.pure hd hH (DU.ptr (p := p + fd.offset) hι) Rd.nil⟩
            simp only [opFieldAddr, hfd, hn, if_neg hn0]
        | fp a off sz' =>
          simp only [Option.some.injEq] at h
          subst h
          refine Sp.refl fun env _ τ ι tm g id H hd hH hid x hx => ?_
          cases hx with
          | fp ha hs =>
            refine ⟨_, ?_, OpPost.pure hd hH (DU.fp (off := off + fd.offset) ha hs) Rd.nil⟩
            simp only [opFieldAddr, hfd, hn, if_neg hn0, List.drop_drop]
        | ep o i a p =>
          simp only [Option.some.injEq] at h
          subst h
          refine Sp.refl fun env _ τ ι tm g id H hd hH hid x hx => ?_
          cases hx with
          | ep hι hi he hz =>
            refine ⟨_, ?_, OpPost.pure hd hH (DU.ep (p := p + fd.offset) hι hi he hz) Rd.nil⟩
            simp only [opFieldAddr, hfd, hn, if_neg hn0, Nat.add_assoc]
        | _ => simp at h
    · simp at h
  · simp at h
theorem opField_mk {g : Nat → Option V.Obj} {t : TypeId} {f n : Nat} {ag : Bool} {fd : Field} (hfd : fieldOf P t f = some fd) (hn : sizeT P fd.type = some n) (ha : aggT P fd.type = some ag) (us : List U) (hle : fd.offset + n ≤ us.length) :
    opField P t f (mkAgg us) = if ag then some ⟨mkAgg ((us.drop fd.offset).take n), [], []⟩ else (us[fd.offset]?).map fun u => ⟨u, [], []⟩ := by
  unfold mkAgg
  split
  · rename_i ds hds
    have := asDat_all hds
    subst this
    simp only [opField, hfd, hn, ha]
    cases ag with
    | true =>
      simp only [if_true]
      rw [if_pos (by simpa using hle), ← List.map_drop, ← List.map_take, asDats]
    | false => simp only [Bool.false_eq_true, if_false, List.getElem?_map, Option.map_map]; rfl
  · simp only [opField, hfd, hn, ha]
    cases ag with
    | true => simp only [if_true, if_pos hle]; rfl
    | false => rfl
theorem sField_ok {S : SSt} {e : Em} {t : TypeId} {f : Nat} {u : SU} {r : SR} (h : sField P S e t f u = some r) :
    Sp P CR e r.e fun env => ∀ τ ι tm g id H, Den τ env ι S tm g → HOk ι H → g id = none → ∀ x, DU env ι u x → ∃ res, opField P t f x = some res ∧ OpPost τ env r.S r.u r.rd r.up tm g id H res := by
  unfold sField at h
  split at h
  · rename_i fd hfd
    split at h
    · rename_i n ag sz hn ha hsz
      cases u with
      | «at» a =>
        simp only at h
        split at h
        · rename_i h2
          obtain ⟨w, hw, rfl⟩ := Option.map_eq_some_iff.1 h
          refine (partS_sp hw).mono fun env _ q τ ι tm g id H hd hH hid x hx => ?_
          cases hx with
          | «at» hat =>
            rename_i d
            obtain ⟨y, h3, h4, h5⟩ := q d hat (by simp)
            have hag : d = .agg d.cells := cells_two (by have := Nat.le_of_ble_eq_true h2; omega)
            refine ⟨⟨.dat y, [], []⟩, ?_, OpPost.pure hd hH (.at h3) Rd.nil⟩
            rw [hag]
            generalize d.cells = ds at h4
            simp only [opField, hfd, hn, ha]
            cases ag with
            | true =>
              simp only [if_true] at h4 ⊢
              rw [if_pos h4.1, h4.2]
            | false =>
              simp only [Bool.false_eq_true, if_false] at h4 ⊢
              rw [h4]
              rfl
        · simp at h
      | agg cs =>
        simp only at h
        split at h
        · rename_i hle
          obtain ⟨v, hv, rfl⟩ := Option.map_eq_some_iff.1 h
          refine Sp.refl fun env _ τ ι tm g id H hd hH hid x hx => ?_
          cases hx with
          | agg hl hh ho =>
            rename_i us
            have hle := Nat.le_of_ble_eq_true hle
            have hone : ∀ u ∈ (us.drop fd.offset).take n, u.one = true := fun u hu => ho u (List.mem_of_mem_drop (List.mem_of_mem_take hu))
            obtain ⟨y, h1, h2⟩ := ofCells_ok hv (DUs.take (DUs.drop (show DUs env ι cs us from ⟨hl, hh⟩) fd.offset) n) hone
            refine ⟨⟨y, [], []⟩, ?_, OpPost.pure hd hH h2 Rd.nil⟩
            rw [opField_mk (g := g) hfd hn ha us (by omega)]
            cases ag with
            | true => simp only [if_true, Option.some.injEq] at h1 ⊢; rw [h1]
            | false =>
              simp only [Bool.false_eq_true, if_false] at h1 ⊢
              have hz : ¬ n = 0 := fun e => by subst e; simp at h1
              rw [List.head?_take, if_neg hz, List.head?_drop] at h1
              rw [h1]
              rfl
        · simp at h
      | _ => simp at h
    · simp at h
  · simp at h
end
end Go.Proofs.YtjofhegodknmaaaGreat.W
namespace Go.Proofs.YtjofhegodknmaaaGreat.W
open Go Go.RowKit
open V hiding At
section
variable {P : Program} {CR : Nat → List D → List D → Prop}
theorem mk_rows {esz : Nat} {ag : Bool} (ha : ag = true ∨ esz = 1) (hp : 0 < esz) : ∀ {k : Nat} {ds : List D}, ds.length = k * esz → (∀ d ∈ ds, d.one = true) → (∀ d ∈ chunk ag esz k ds, rowOk esz ag d = true) ∧ (chunk ag esz k ds).flatMap D.cells = ds ∧ (chunk ag esz k ds).length = k
  | 0, ds, h, ho => by
    simp at h
    subst h
    simp [chunk]
  | k + 1, ds, h, ho => by
    rw [Nat.succ_mul] at h
    obtain ⟨h1, h2, h3⟩ := mk_rows ha hp (k := k) (ds := ds.drop esz) (by rw [List.length_drop]; omega) fun d hd => ho d (List.mem_of_mem_drop hd)
    have hx : rowOk esz ag (if ag then .agg (ds.take esz) else ds.headD .nil) = true ∧ (if ag then D.agg (ds.take esz) else ds.headD .nil).cells = ds.take esz := by
      cases ag with
      | true =>
        simp only [if_true]
        refine ⟨?_, rfl⟩
        simp only [rowOk, Bool.true_and, Bool.and_eq_true]
        refine ⟨?_, List.all_eq_true.2 fun d hd => ho d (List.mem_of_mem_take hd)⟩
        rw [List.length_take, Nat.min_eq_left (by omega)]
        exact Nat.beq_refl _
      | false =>
        have : esz = 1 := by simpa using ha
        subst this
        cases ds with
        | nil => simp at h
        | cons d r =>
          have hd := ho d (by simp)
          simp only [Bool.false_eq_true, if_false, List.headD_cons]
          refine ⟨?_, by rw [V.D.cells_one hd]; rfl⟩
          cases d <;> first | rfl | simp [D.one] at hd
    rw [chunk_cons ha]
    refine ⟨fun d hd => ?_, ?_, by simp [h3]⟩
    · rcases List.mem_cons.1 hd with rfl | hd
      · exact hx.1
      · exact h1 d hd
    · rw [List.flatMap_cons, hx.2, h2, List.take_append_drop]
theorem catA_sp {e : Em} {esz bytes : Nat} {ag : Bool} {a l : At} {r : At × Em} (h : catA P e esz bytes ag a l = some r) :
    Sp P CR e r.2 fun env => ∀ df l0 es, atD env a = some df → lstOf df = some l0 → atD env l = some (.lst es) → es ≠ [] → atD env r.1 = some (.lst (l0 ++ es)) := by
  unfold catA at h
  split at h
  · obtain rfl := Option.some.inj h
    refine Sp.refl fun env _ df l0 es h1 h2 h3 _ => ?_
    simp only [atD, Option.some.injEq] at h1
    subst h1
    simp only [lstOf, Option.some.injEq] at h2
    subst h2
    exact h3
  · refine (fold_sp h).mono fun env _ q df l0 es h1 h2 h3 hne => ?_
    obtain ⟨ds, d, f4, f5, f6⟩ := q
    obtain ⟨df', ld, g4, g5, rfl⟩ := atsD_cons f4
    obtain ⟨dl, ln, g6, g7, rfl⟩ := atsD_cons g5
    simp [atsD] at g7
    subst g7
    rw [h1] at g4
    obtain rfl := Option.some.inj g4
    rw [h3] at g6
    obtain rfl := Option.some.inj g6
    simp only [popD, h2, srcD] at f5
    rw [if_neg (by simpa using hne)] at f5
    split at f5
    · obtain rfl := Option.some.inj f5
      exact f6
    · simp at f5
theorem settle1_sp {S : SSt} {e : Em} {o : Nat} {ob' : SObj} {a : At} {S' : SSt} {e' : Em} (h : settle1 P S e o = some (ob', a, S', e')) :
    Sp P CR e e' fun env => ∀ τ ι tm g H, Den τ env ι S tm g → HOk ι H →
      ∃ ι', Den τ env ι' S' tm g ∧ Fw ι ι' ∧ HOk ι' H ∧ getS S'.st o = some ob' ∧ ob'.row = some a ∧ ob'.cells = [] ∧ S'.nx = S.nx ∧ ∃ ob, getS S.st o = some ob ∧ ob'.ty = ob.ty ∧ ob'.esz = ob.esz ∧ ob'.bytes = ob.bytes ∧ ob'.ag = ob.ag ∧ ob'.snap = ob.snap := by
  unfold settle1 at h
  split at h
  · rename_i ob ho
    split at h
    · rename_i a0 hr
      split at h
      · rename_i hc
        simp only [Option.some.injEq, Prod.mk.injEq] at h
        obtain ⟨rfl, rfl, rfl, rfl⟩ := h
        exact Sp.refl fun env _ τ ι tm g H hd hH => ⟨ι, hd, Fw.refl ι, hH, ho, hr, hc, rfl, ob, ho, rfl, rfl, rfl, rfl, rfl⟩
      · rename_i hcne
        split at h
        · rename_i as has
          split at h
          · rename_i es e1 hes
            split at h
            · rename_i l e2 hl
              split at h
              · rename_i a1 e3 ha1
                simp only [Option.some.injEq, Prod.mk.injEq] at h
                obtain ⟨rfl, rfl, rfl, rfl⟩ := h
                refine Sp.then (elems_sp hes) (Sp.then (fold_sp hl) (catA_sp ha1) fun env q1 q2 => And.intro q1 q2) fun env q1 q2 τ ι tm g H hd hH => ?_
                obtain ⟨⟨ds1, d1, f1, f2, f3⟩, q3⟩ := q2
                cases hd.ob o ob ho with
                | var c ob' hr' => rw [hr'] at hr; simp at hr
                | map a9 c9 ob9 l9 hr' => rw [hr'] at hr; simp at hr
                | nil a' hr' hι' ha hc => exact absurd hc hcne
                | row a' c ob' us hr' hι hg gen ty esz ag pos agOk snap front rows cells beh one len tag =>
                  rw [hr] at hr'
                  obtain rfl := Option.some.inj hr'
                  obtain ⟨ds, rfl, h5⟩ := atoms_ok has beh
                  rw [List.length_map] at len
                  have hdo : ∀ d ∈ ds, D.one d = true := fun d hd => one (.dat d) (List.mem_map_of_mem hd)
                  have h9 := q1 _ c.k h5 len pos agOk (by
                    have := atsD_len h5
                    rw [← this, len]
                    exact Nat.le_mul_of_pos_right _ pos)
                  rw [h9] at f1
                  obtain rfl := Option.some.inj f1
                  obtain ⟨g1, g2, g3⟩ := mk_rows agOk pos len hdo
                  simp only [popD] at f2
                  split at f2
                  · obtain rfl := Option.some.inj f2
                    have hkne : chunk ob.ag ob.esz c.k ds ≠ [] := by
                      intro h0
                      rw [h0] at g3
                      simp at g3
                      rw [← g3] at len
                      simp at len
                      subst len
                      exact hcne (by rw [← List.length_eq_zero_iff, ← beh.1]; rfl)
                    have hfr : atD env a1 = some (.lst (c.l ++ chunk ob.ag ob.esz c.k ds)) := by
                      rcases front with hf | ⟨hf, h0, _⟩
                      · exact q3 _ c.l _ hf rfl f3 hkne
                      · exact q3 _ c.l _ hf (by rw [h0]; rfl) f3 hkne
                    let c' : Loc := { c with l := c.l ++ chunk ob.ag ob.esz c.k ds, k := 0 }
                    let ι' : Pl := fun p => if p = o then some (some c') else ι p
                    have e1 : ι' o = some (some c') := if_pos rfl
                    have e2 : ∀ p, p ≠ o → ι' p = ι p := fun p hp => if_neg hp
                    have hfw : Fw ι ι' := by
                      intro p x hx
                      by_cases ep : p = o
                      · subst ep
                        rw [hι] at hx
                        obtain rfl := Option.some.inj hx
                        exact ⟨c', e1, rfl, rfl, ⟨_, rfl⟩, by simp only [c', List.length_append, g3, Nat.add_zero]⟩
                      · exact Fw.refl ι' p x (by rw [e2 p ep]; exact hx)
                    refine ⟨ι', ⟨hd.tm.fw hfw, fun p sp hp => ?_, fun p x hx => ?_, fun p q c1 c2 h1 h2 he => ?_, fun p hp => ?_⟩, hfw, fun p c1 h1 => ?_, by rw [getS_set, if_pos rfl], rfl, rfl, rfl, ob, ho, rfl, rfl, rfl, rfl, rfl⟩
                    · simp only at hp
                      rw [getS_set] at hp
                      split at hp
                      · rename_i ep
                        subst ep
                        obtain rfl := Option.some.inj hp
                        refine .row a1 c' ob' [] rfl e1 hg gen ty esz ag pos agOk snap (.inl hfr) (fun d hd => ?_) ?_ DUs.nil (by simp) (by simp [c']) (fun q hq => ?_)
                        · rcases List.mem_append.1 hd with hd | hd
                          · exact rows d hd
                          · exact g1 d hd
                        · rw [cells]
                          simp only [c', List.flatMap_append, g2, List.map_append, List.append_nil]
                        · have := tag q hq
                          simpa [c', g3] using this
                      · rename_i ep
                        exact (hd.ob p sp hp).same (e2 p ep) (fun _ _ => rfl) fun us hu => hu.fw hfw
                    · simp only
                      rw [getS_set]
                      split
                      · exact ⟨_, rfl⟩
                      · rename_i ep
                        rw [e2 p ep] at hx
                        exact hd.dom p x hx
                    · have k1 : ∃ c3, ι p = some (some c3) ∧ c3.co = c1.co := by
                        by_cases ep : p = o
                        · subst ep
                          rw [e1] at h1
                          obtain rfl := Option.some.inj (Option.some.inj h1)
                          exact ⟨c, hι, rfl⟩
                        · rw [e2 p ep] at h1
                          exact ⟨c1, h1, rfl⟩
                      have k2 : ∃ c3, ι q = some (some c3) ∧ c3.co = c2.co := by
                        by_cases ep : q = o
                        · subst ep
                          rw [e1] at h2
                          obtain rfl := Option.some.inj (Option.some.inj h2)
                          exact ⟨c, hι, rfl⟩
                        · rw [e2 q ep] at h2
                          exact ⟨c2, h2, rfl⟩
                      obtain ⟨c3, k3, k4⟩ := k1
                      obtain ⟨c4, k5, k6⟩ := k2
                      exact hd.inj p q c3 c4 k3 k5 (by rw [k4, k6, he])
                    · simp only at hp ⊢
                      rw [getS_set, if_neg]
                      · exact hd.nxS p hp
                      · intro ep
                        subst ep
                        rw [hd.nxS _ hp] at ho
                        simp at ho
                    · by_cases ep : p = o
                      · subst ep
                        rw [e1] at h1
                        obtain rfl := Option.some.inj (Option.some.inj h1)
                        exact hH _ c hι
                      · rw [e2 p ep] at h1
                        exact hH p c1 h1
                  · simp at f2
              · simp at h
            · simp at h
          · simp at h
        · simp at h
    · simp at h
  · simp at h
theorem elt_ok {env : List D} {esz : Nat} {a i x : At} (h : ∃ ds d, atsD env [a, i] = some ds ∧ popD P (.elt esz) ds = some d ∧ atD env x = some d) {da : D} (ha : atD env a = some da) {di : D} (hi : atD env i = some di) :
    ∃ l k z d, da = .lst l ∧ di = .int k (Int.ofNat z) ∧ l[z]? = some d ∧ d.cells.length = esz ∧ atD env x = some d := by
  obtain ⟨ds, d, h1, h2, h3⟩ := h
  obtain ⟨d1, l1, h4, h5, rfl⟩ := atsD_cons h1
  obtain ⟨d2, l2, h6, h7, rfl⟩ := atsD_cons h5
  simp [atsD] at h7
  subst h7
  rw [ha] at h4
  obtain rfl := Option.some.inj h4
  rw [hi] at h6
  obtain rfl := Option.some.inj h6
  cases da <;> simp only [popD, reduceCtorEq] at h2
  rename_i l
  cases di <;> simp only [popD, reduceCtorEq] at h2
  rename_i k z
  split at h2
  · rename_i d' hd'
    split at h2
    · rename_i hc
      simp only [Bool.and_eq_true, decide_eq_true_eq] at hc
      obtain rfl := Option.some.inj h2
      obtain ⟨m, rfl⟩ := Int.eq_ofNat_of_zero_le hc.1
      exact ⟨l, k, m, d', rfl, rfl, by simpa using hd', Nat.eq_of_beq_eq_true hc.2, h3⟩
    · simp at h2
  · simp at h2
theorem sIndexAddr_ok {S : SSt} {e : Em} {t : TypeId} {u w : SU} {r : SR} (h : sIndexAddr P S e t u w = some r) :
    Sp P CR e r.e fun env => ∀ τ ι tm g id H, Den τ env ι S tm g → HOk ι H → g id = none → ∀ x y, DU env ι u x → DU env ι w y → ∃ res, opIndexAddr P g t x y = some res ∧ OpPost τ env r.S r.u r.rd r.up tm g id H res := by
  unfold sIndexAddr at h
  split at h
  · rename_i el i hu hi
    obtain rfl := atS_ok hi
    split at h
    · rename_i sz hsz
      cases u with
      | own o =>
        simp only at h
        split at h
        · rename_i ob a S1 e1 hs
          split at h
          · rename_i hc
            simp only [Bool.and_eq_true] at hc
            obtain ⟨q, hq, rfl⟩ := Option.map_eq_some_iff.1 h
            refine Sp.then (settle1_sp hs) (fold_sp hq) fun env q1 q2 τ ι tm g id H hd hH hid x y hx hy => ?_
            obtain ⟨ι', hd', hfw, hH', h1, h2, h3, _⟩ := q1 τ ι tm g H hd hH
            have hx' := hx.fw hfw
            cases hy with
            | «at» hai =>
              have hsz2 := Nat.eq_of_beq_eq_true hc.1
              have hsz3 := Nat.le_of_ble_eq_true hc.2
              rcases (hd'.ob o ob h1).plain h2 h3 with ⟨hι, ha⟩ | ⟨c, ob', hι, hk, ha, hg, gen, ty, esz, ag, pos, rows, cells⟩
              · obtain ⟨l, k, z, d, h5, _⟩ := elt_ok q2 ha hai
                simp at h5
              · obtain ⟨l, k, z, d, h5, rfl, h6, h7, h8⟩ := elt_ok q2 ha hai
                simp only [D.lst.injEq] at h5
                subst h5
                cases hx' with
                | ownN hι2 => rw [hι] at hι2; simp at hι2
                | own hι2 =>
                  rw [hι] at hι2
                  obtain rfl := Option.some.inj (Option.some.inj hι2)
                  have hzl := (List.getElem?_eq_some_iff.1 h6).1
                  refine ⟨⟨.ptr c.co c.cg (z * sz), [c.co], []⟩, ?_, ?_⟩
                  · simp only [opIndexAddr, hu, hg, hsz]
                    rw [if_pos ⟨gen, by rw [esz, hsz2], hsz3, Int.natCast_nonneg z, by simp only [Int.ofNat_eq_natCast]; omega⟩]
                    simp
                  · have := DU.ep (p := 0) hι hai h8 h6
                    rw [h7, Nat.add_zero] at this
                    exact OpPost.pure hd' hH' this (Rd.cons hι Rd.nil)
          · simp at h
        · simp at h
      | sub o i1 i2 =>
        simp only at h
        split at h
        · rename_i ob ho
          split at h
          · rename_i a hrow hcn
            split at h
            · rename_i hc
              simp only [Bool.and_eq_true] at hc
              split at h
              · rename_i l0 e1 hs
                split at h
                · rename_i x0 e2 hx0
                  obtain ⟨q, hq, rfl⟩ := Option.map_eq_some_iff.1 h
                  refine Sp.then (Sp.then (fold_sp hs) (fold_sp hx0) fun env a b => And.intro a b) (fold_sp hq) fun env q12 q3 τ ι tm g id H hd hH hid x y hx hy => ?_
                  obtain ⟨q1, q2⟩ := q12
                  have hsz2 := Nat.eq_of_beq_eq_true hc.1
                  have hsz3 := Nat.le_of_ble_eq_true hc.2
                  cases hy with
                  | «at» hai =>
                    cases hx with
                    | subN hι h1 h2 =>
                      rcases (hd.ob o ob ho).plain hrow hcn with ⟨_, ha⟩ | ⟨c, _, hι2, _⟩
                      · obtain ⟨l, k, z, d, h5, _⟩ := elt_ok q2 (slc0 q1 ha h1 h2) hai
                        simp at h5
                      · rw [hι] at hι2; simp at hι2
                    | sub hι hn h1 h2 =>
                      rename_i off n c ki kj
                      rcases (hd.ob o ob ho).plain hrow hcn with ⟨hι2, _⟩ | ⟨c', ob', hι2, hk, ha, hg, gen, ty, esz, ag, pos, rows, cells⟩
                      · rw [hι] at hι2; simp at hι2
                      · rw [hι] at hι2
                        obtain rfl := Option.some.inj (Option.some.inj hι2)
                        obtain ⟨hx1, _, _⟩ := slc2 q1 ha h1 h2
                        obtain ⟨l, k, z, d, h5, rfl, h6, h7, h8⟩ := elt_ok q2 hx1 hai
                        simp only [D.lst.injEq] at h5
                        subst h5
                        have hzl := (List.getElem?_eq_some_iff.1 h6).1
                        have hzn : z < n := by simp at hzl; omega
                        have h6' : c.l[off + z]? = some d := by
                          rw [List.getElem?_take, if_pos hzn, List.getElem?_drop] at h6
                          exact h6
                        obtain ⟨ds, dd, f1, f2, f3⟩ := q3
                        have : atsD env [i1, i] = some [.int ki (off : Nat), .int k (Int.ofNat z)] := atsD_mk h1 (atsD_mk hai rfl)
                        rw [this] at f1
                        obtain rfl := Option.some.inj f1
                        have hnn : (0 : Int) ≤ (off : Nat) ∧ (0 : Int) ≤ Int.ofNat z := ⟨Int.natCast_nonneg off, Int.natCast_nonneg z⟩
                        simp only [popD, if_pos hnn, Option.some.injEq] at f2
                        have hq1 : atD env q.1 = some (.int .i64 ((off + z : Nat) : Int)) := by
                          rw [f3, ← f2]
                          simp
                        refine ⟨⟨.ptr c.co c.cg ((off + z) * sz), [c.co], []⟩, ?_, ?_⟩
                        · simp only [opIndexAddr, hu, hg, hsz]
                          rw [if_pos ⟨gen, by rw [esz, hsz2], hsz3, Int.natCast_nonneg z, by simp only [Int.ofNat_eq_natCast]; omega⟩]
                          simp
                        · have := DU.ep (p := 0) hι hq1 h8 h6'
                          rw [h7, Nat.add_zero] at this
                          exact OpPost.pure hd hH this (Rd.cons hι Rd.nil)
                · simp at h
              · simp at h
            · simp at h
          · simp at h
        · simp at h
      | «at» a =>
        simp only at h
        split at h
        · rename_i hp
          obtain ⟨q, hq, rfl⟩ := Option.map_eq_some_iff.1 h
          refine (fold_sp hq).mono fun env _ q1 τ ι tm g id H hd hH hid x y hx hy => ?_
          cases hx with
          | «at» ha =>
            cases hy with
            | «at» hai =>
              obtain ⟨l, k, z, d, rfl, rfl, h6, h7, h8⟩ := elt_ok q1 ha hai
              refine ⟨⟨.dat (.fp d.cells), [], []⟩, ?_, ?_⟩
              · have hp := Nat.le_of_ble_eq_true hp
                simp only [opIndexAddr, hu, hsz, Int.ofNat_eq_natCast, Int.toNat_natCast, h6]
                rw [if_pos ⟨Int.natCast_nonneg z, h7, hp⟩]
              · have := DU.fp (ι := ι) (off := 0) h8 h7
                rw [List.drop_zero] at this
                exact OpPost.pure hd hH this Rd.nil
        · simp at h
      | _ => simp at h
    · simp at h
  · rename_i len el k i hu hi
    obtain rfl := atS_ok hi
    split at h
    · rename_i sz hsz
      split at h
      · rename_i hb
        cases u with
        | ptr o p =>
          simp only [Option.some.injEq] at h
          subst h
          refine Sp.refl fun env _ τ ι tm g id H hd hH hid x y hx hy => ?_
          cases hy with
          | «at» hai =>
            simp only [atD, Option.some.injEq] at hai
            subst hai
            cases hx with
            | ptr hι =>
              refine ⟨_, ?_, OpPost.pure hd hH (DU.ptr (p := p + i.toNat * sz) hι) Rd.nil⟩
              simp only [opIndexAddr, hu, hsz, if_pos hb]
        | fp a off n =>
          simp only [Option.some.injEq] at h
          subst h
          refine Sp.refl fun env _ τ ι tm g id H hd hH hid x y hx hy => ?_
          cases hy with
          | «at» hai =>
            simp only [atD, Option.some.injEq] at hai
            subst hai
            cases hx with
            | fp ha hs =>
              refine ⟨_, ?_, OpPost.pure hd hH (DU.fp (off := off + i.toNat * sz) ha hs) Rd.nil⟩
              simp only [opIndexAddr, hu, hsz, if_pos hb, List.drop_drop]
        | _ => simp at h
      · simp at h
    · simp at h
  · simp at h
end
end Go.Proofs.YtjofhegodknmaaaGreat.W
namespace Go.Proofs.YtjofhegodknmaaaGreat.W
open Go Go.RowKit
open V hiding At
section
variable {P : Program} {CR : Nat → List D → List D → Prop}
def OptB (env : List D) : Option At → Option U → Prop
  | none, none => True
  | some a, some u => ∃ d, u = .dat d ∧ atD env a = some d
  | _, _ => False
theorem optS_ok {env : List D} {ι : Pl} {ts : List SU} {tm : List U} (h : DUs env ι ts tm) {x : Option Operand} {a : Option At} (hx : optS ts x = some a) :
    ∃ y, optU tm x = some y ∧ OptB env a y := by
  cases x with
  | none =>
    simp only [optS, Option.some.injEq] at hx
    subst hx
    exact ⟨none, rfl, trivial⟩
  | some x =>
    simp only [optS] at hx
    obtain ⟨b, hb, rfl⟩ := Option.map_eq_some_iff.1 hx
    simp only [Option.bind_eq_some_iff] at hb
    obtain ⟨u, hu, hb⟩ := hb
    obtain rfl := atS_ok hb
    obtain ⟨y, hy, hdu⟩ := evalS_ok h hu
    cases hdu with
    | «at» ha => exact ⟨some (.dat _), by simp only [optU, hy, Option.map_some], _, rfl, ha⟩
theorem bound_ok {env : List D} {n : Nat} {a : Option At} {y : Option U} (h : OptB env a y)
    {rest : List At} {ds : List D} (hds : atsD env (a.toList ++ rest) = some ds) {b : Nat} {q : List D} (hb : boundD n a.isSome ds = some (b, q)) : bound n y = some b ∧ atsD env rest = some q := by
  cases a with
  | none =>
    cases y with
    | some u => exact absurd h (by simp [OptB])
    | none =>
      simp only [Option.isSome_none, boundD, Option.some.injEq, Prod.mk.injEq] at hb
      simp only [Option.toList, List.nil_append] at hds
      rw [hb.2] at hds
      exact ⟨by rw [← hb.1]; rfl, hds⟩
  | some a =>
    cases y with
    | none => exact absurd h (by simp [OptB])
    | some u =>
      simp only [OptB] at h
      obtain ⟨d, rfl, ha⟩ := h
      obtain ⟨d', l, h1, h2, rfl⟩ := atsD_cons (a := a) (as := rest) hds
      rw [ha] at h1
      obtain rfl := Option.some.inj h1
      cases d <;> simp only [Option.isSome_some, boundD, reduceCtorEq] at hb
      rename_i k i
      split at hb
      · rename_i hi
        simp only [Option.some.injEq, Prod.mk.injEq] at hb
        obtain ⟨rfl, rfl⟩ := hb
        exact ⟨by simp only [bound, if_pos hi], h2⟩
      · simp at hb
theorem slc_ok {env : List D} {esz : Nat} {a x : At} {l h : Option At} {yl yh : Option U} (hl : OptB env l yl)
    (hh : OptB env h yh)
    (q : ∃ ds d, atsD env ([a] ++ l.toList ++ h.toList) = some ds ∧ popD P (.slc esz l.isSome h.isSome) ds = some d ∧ atD env x = some d) {da : D} (ha : atD env a = some da) :
    (∃ es b c, da = .lst es ∧ bound 0 yl = some b ∧ bound es.length yh = some c ∧ b ≤ c ∧ c ≤ es.length ∧ (es.all fun d => d.cells.length == esz) = true ∧ atD env x = some (.lst ((es.take c).drop b))) ∨
    (da = .nil ∧ bound 0 yl = some 0 ∧ bound 0 yh = some 0 ∧ atD env x = some .nil) := by
  obtain ⟨ds, d, h1, h2, h3⟩ := q
  rw [List.append_assoc] at h1
  obtain ⟨d', r, h4, h5, rfl⟩ := atsD_cons (a := a) (as := l.toList ++ h.toList) h1
  rw [ha] at h4
  obtain rfl := Option.some.inj h4
  cases da <;> simp only [popD, reduceCtorEq] at h2
  · -- nil
    split at h2
    · rename_i q1 hb1
      obtain ⟨g1, g2⟩ := bound_ok hl h5 hb1
      have g2' : atsD env (h.toList ++ []) = some q1 := by rw [List.append_nil]; exact g2
      split at h2
      · rename_i hb2
        obtain ⟨g3, _⟩ := bound_ok hh g2' hb2
        obtain rfl := Option.some.inj h2
        exact .inr ⟨rfl, g1, g3, h3⟩
      · simp at h2
    · simp at h2
  · -- a list
    rename_i es
    split at h2
    · rename_i b q1 hb1
      obtain ⟨g1, g2⟩ := bound_ok hl h5 hb1
      have g2' : atsD env (h.toList ++ []) = some q1 := by rw [List.append_nil]; exact g2
      split at h2
      · rename_i c hb2
        obtain ⟨g3, _⟩ := bound_ok hh g2' hb2
        split at h2
        · rename_i hc
          simp only [Bool.and_eq_true] at hc
          obtain rfl := Option.some.inj h2
          refine .inl ⟨es, b, c, rfl, g1, g3, Nat.le_of_ble_eq_true hc.1.1, Nat.le_of_ble_eq_true hc.1.2, ?_, h3⟩
          rw [List.all_eq_true] at hc ⊢
          intro d hd
          have := Nat.eq_of_beq_eq_true (hc.2 d hd)
          simp [this]
        · simp at h2
      · simp at h2
    · simp at h2
theorem optB_some {env : List D} {a : At} {y : Option U} {n b : Nat} (h : OptB env (some a) y) (hb : bound n y = some b) : ∃ k, atD env a = some (.int k (b : Nat)) := by
  cases y with
  | none => exact absurd h (by simp [OptB])
  | some u =>
    simp only [OptB] at h
    obtain ⟨d, rfl, ha⟩ := h
    cases d <;> simp only [bound, reduceCtorEq] at hb
    rename_i k i
    split at hb
    · rename_i hi
      obtain rfl := Option.some.inj hb
      exact ⟨k, by rw [ha, Int.toNat_of_nonneg hi]⟩
    · simp at hb
theorem optB_lo {env : List D} {l : Option At} {y : Option U} {b : Nat} (h : OptB env l y) (hb : bound 0 y = some b) : ∃ k, atD env (l.getD (.c (.int .i64 0))) = some (.int k (b : Nat)) := by
  cases l with
  | some a => exact optB_some h hb
  | none =>
    cases y with
    | some u => exact absurd h (by simp [OptB])
    | none =>
      simp only [bound, Option.some.injEq] at hb
      subst hb
      exact ⟨.i64, rfl⟩
theorem sSlice_ok {S : SSt} {e : Em} {t : TypeId} {u : SU} {lo hi mx : Option Operand} {r : SR} (h : sSlice P S e t u lo hi mx = some r) :
    Sp P CR e r.e fun env => ∀ τ ι tm g id H, Den τ env ι S tm g → HOk ι H → g id = none → ∀ x, DU env ι u x → ∃ res, opSlice P g tm t x lo hi mx = some res ∧ OpPost τ env r.S r.u r.rd r.up tm g id H res := by
  unfold sSlice at h
  split at h
  · rename_i l h' el hl hh hu
    split at h
    · rename_i sz hsz
      cases u with
      | «at» a =>
        simp only at h
        obtain ⟨q, hq, rfl⟩ := Option.map_eq_some_iff.1 h
        refine (fold_sp hq).mono fun env _ q1 τ ι tm g id H hd hH hid x hx => ?_
        obtain ⟨yl, e1, e2⟩ := optS_ok hd.tm hl
        obtain ⟨yh, e3, e4⟩ := optS_ok hd.tm hh
        cases hx with
        | «at» ha =>
          rcases slc_ok e2 e4 q1 ha with ⟨es, b, c, rfl, h1, h2, h3, h4, h5, h6⟩ | ⟨rfl, h1, h2, h3⟩
          · refine ⟨_, ?_, OpPost.pure hd hH (.at h6) Rd.nil⟩
            simp only [opSlice, e1, e3, hu, h1, h2, hsz]
            rw [if_pos ⟨h3, h4, h5⟩]
          · refine ⟨_, ?_, OpPost.pure hd hH (.at h3) Rd.nil⟩
            simp only [opSlice, e1, e3, hu, h1, h2, hsz]
      | own o =>
        simp only at h
        split at h
        · rename_i ob a S1 e1' hs
          split at h
          · rename_i hc
            simp only [Bool.and_eq_true] at hc
            split at h
            · rename_i x0 e2 hq
              have key : ∀ (j : At) (e3 : Em) (Q : List D → Prop), r = ⟨.sub o (l.getD (.c (.int .i64 0))) j, S1, e3, [o], [], false⟩ → Sp P CR e2 e3 Q →
                  (∀ env τ ι g, Q env → DOs τ env ι S1.st g → ∀ yh m, OptB env h' yh → (∀ c, ι o = some (some c) → c.k = 0 → atD env a = some (.lst c.l) → bound c.l.length yh = some m → ∃ k, atD env j = some (.int k (m : Nat))) ∧ (ι o = some none → atD env a = some .nil → bound 0 yh = some 0 → ∃ k, atD env j = some (.int k 0))) →
                  Sp P CR e r.e fun env => ∀ τ ι tm g id H, Den τ env ι S tm g → HOk ι H → g id = none → ∀ x, DU env ι (.own o) x → ∃ res, opSlice P g tm t x lo hi none = some res ∧ OpPost τ env r.S r.u r.rd r.up tm g id H res := by
                intro j e3 Q hr hQ hj
                subst hr
                refine Sp.then (Sp.then (settle1_sp hs) (fold_sp hq) fun env a b => And.intro a b) hQ fun env q12 q3 τ ι tm g id H hd hH hid x hx => ?_
                obtain ⟨q1, q2⟩ := q12
                obtain ⟨yl, e1, e2⟩ := optS_ok hd.tm hl
                obtain ⟨yh, e3, e4⟩ := optS_ok hd.tm hh
                obtain ⟨ι', hd', hfw, hH', h1, h2, h3, _⟩ := q1 τ ι tm g H hd hH
                have hx' := hx.fw hfw
                rcases (hd'.ob o ob h1).plain h2 h3 with ⟨hι, ha⟩ | ⟨c, ob', hι, hk, ha, hg, gen, ty, esz, ag, pos, rows, cells⟩
                · cases hx' with
                  | own hι2 => rw [hι] at hι2; simp at hι2
                  | ownN hι2 =>
                    rcases slc_ok e2 e4 q2 ha with ⟨es, b, c, h0, _⟩ | ⟨_, h1, h2, h3⟩
                    · simp at h0
                    · obtain ⟨k1, f1⟩ := optB_lo e2 h1
                      obtain ⟨k2, f2⟩ := (hj env τ ι' g q3 hd'.ob yh 0 e4).2 hι ha h2
                      refine ⟨_, ?_, OpPost.pure hd' hH' (.subN hι f1 f2) Rd.nil⟩
                      simp only [opSlice, e1, e3, hu, h1, h2, hsz]
                · cases hx' with
                  | ownN hι2 => rw [hι] at hι2; simp at hι2
                  | own hι2 =>
                    rw [hι] at hι2
                    obtain rfl := Option.some.inj (Option.some.inj hι2)
                    rcases slc_ok e2 e4 q2 ha with ⟨es, b, m, h0, h4, h5, h6, h7, _, h8⟩ | ⟨h0, _⟩
                    · simp only [D.lst.injEq] at h0
                      subst h0
                      obtain ⟨k1, f1⟩ := optB_lo e2 h4
                      obtain ⟨k2, f2⟩ := (hj env τ ι' g q3 hd'.ob yh m e4).1 c hι hk ha h5
                      have hbm : b + (m - b) = m := by omega
                      refine ⟨⟨.own c.co c.cg b (m - b), [c.co], []⟩, ?_, OpPost.pure hd' hH' (.sub hι (by omega) f1 (by rw [hbm]; exact f2)) (Rd.cons hι Rd.nil)⟩
                      have hsz2 := Nat.eq_of_beq_eq_true hc.1
                      have hsz3 := Nat.le_of_ble_eq_true hc.2
                      simp only [opSlice, e1, e3, hu, h4, hk, Nat.add_zero, h5, hg, hsz]
                      rw [if_pos ⟨gen, by rw [esz, hsz2], hsz3, h6, h7⟩, Nat.zero_add]
                    · simp at h0
              split at h
              · rename_i j
                obtain rfl := Option.some.inj h
                refine key j e2 (fun _ => True) rfl (Sp.refl fun _ _ => trivial) fun env τ ι g _ _ yh m e4 => ⟨fun c _ _ _ hb => optB_some e4 hb, fun _ _ hb => optB_some e4 hb⟩
              · obtain ⟨w, hw, rfl⟩ := Option.map_eq_some_iff.1 h
                refine key w.1 w.2 _ rfl (fold_sp hw) fun env τ ι g q3 _ yh m e4 => ?_
                cases yh with
                | some u => exact absurd e4 (by simp [OptB])
                | none =>
                  obtain ⟨ds, d, f1, f2, f3⟩ := q3
                  refine ⟨fun c _ _ ha hb => ?_, fun _ ha _ => ?_⟩
                  · simp only [bound, Option.some.injEq] at hb
                    subst hb
                    have : atsD env [a] = some [.lst c.l] := atsD_mk ha rfl
                    rw [this] at f1
                    obtain rfl := Option.some.inj f1
                    simp only [popD, lstOf, Option.map_some, Option.some.injEq] at f2
                    exact ⟨.i64, by rw [f3, ← f2]⟩
                  · have : atsD env [a] = some [.nil] := atsD_mk ha rfl
                    rw [this] at f1
                    obtain rfl := Option.some.inj f1
                    simp only [popD, lstOf, Option.map_some, Option.some.injEq] at f2
                    exact ⟨.i64, by rw [f3, ← f2]; rfl⟩
            · simp at h
          · simp at h
        · simp at h
      | _ => simp at h
    · simp at h
  · simp at h
inductive LV (ι : Pl) (g : Nat → Option V.Obj) (rd : List Nat) (esz : Nat) (d : D) : U → Prop
  | dat : LV ι g rd esz d (.dat d)
  | own (o : Nat) (c : Loc) (l : List D) (off : Nat) (ag : Bool) (ob : V.Obj) (hd : d = .lst l) (ho : o ∈ rd) (hι : ι o = some (some c)) (hg : g c.co = some ob) (gen : ob.gen = c.cg) (he : ob.esz = esz) (ha : ob.ag = ag) (pos : 0 < esz)
      (rows : ∀ x ∈ l, rowOk esz ag x = true) (hle : (off + l.length) * esz ≤ ob.cells.length) (hc : (ob.cells.drop (off * esz)).take (l.length * esz) = (l.flatMap D.cells).map .dat) : LV ι g rd esz d (.own c.co c.cg off l.length)
theorem lstS_sp {S : SSt} {e : Em} {u : SU} {a : At} {S' : SSt} {e' : Em} {rd : List Nat} {n : Nat} (h : lstS P S e u = some (a, S', e', rd, n)) :
    Sp P CR e e' fun env => ∀ τ ι tm g H, Den τ env ι S tm g → HOk ι H → ∃ ι', Den τ env ι' S' tm g ∧ Fw ι ι' ∧ HOk ι' H ∧ ∀ x, DU env ι u x → ∃ d, atD env a = some d ∧ LV ι' g rd n d x := by
  cases u with
  | «at» b =>
    simp only [lstS, Option.some.injEq, Prod.mk.injEq] at h
    obtain ⟨rfl, rfl, rfl, rfl, rfl⟩ := h
    refine Sp.refl fun env _ τ ι tm g H hd hH => ⟨ι, hd, Fw.refl ι, hH, fun x hx => ?_⟩
    cases hx with
    | «at» ha => exact ⟨_, ha, .dat⟩
  | sub o i1 i2 =>
    simp only [lstS] at h
    split at h
    · rename_i ob ho
      split at h
      · rename_i a0 hrow hcn
        obtain ⟨w, hw, heq⟩ := Option.map_eq_some_iff.1 h
        simp only [Prod.mk.injEq] at heq
        obtain ⟨rfl, rfl, rfl, rfl, rfl⟩ := heq
        refine (fold_sp hw).mono fun env _ q τ ι tm g H hd hH => ⟨ι, hd, Fw.refl ι, hH, fun x hx => ?_⟩
        cases hx with
        | subN hι h1 h2 =>
          rcases (hd.ob o ob ho).plain hrow hcn with ⟨_, ha⟩ | ⟨c, _, hι2, _⟩
          · exact ⟨_, slc0 q ha h1 h2, .dat⟩
          · rw [hι] at hι2; simp at hι2
        | sub hι hn h1 h2 =>
          rename_i off n c ki kj
          rcases (hd.ob o ob ho).plain hrow hcn with ⟨hι2, _⟩ | ⟨c', ob', hι2, hk, ha, hgo, gen, ty, esz, ag, pos, rows, cells⟩
          · rw [hι] at hι2; simp at hι2
          · rw [hι] at hι2
            obtain rfl := Option.some.inj (Option.some.inj hι2)
            obtain ⟨hx1, _, _⟩ := slc2 q ha h1 h2
            have hlen : ((c.l.drop off).take n).length = n := by simp; omega
            refine ⟨_, hx1, ?_⟩
            have cells' : ob'.cells = (c.l.flatMap D.cells).map .dat ++ [] := by rw [cells, List.append_nil]
            have h1 : (ob'.cells.drop (off * ob.esz)).take (n * ob.esz) = (((c.l.drop off).take n).flatMap D.cells).map .dat := part_cells rows cells' hn
            have h2 : (off + n) * ob.esz ≤ ob'.cells.length := by
              rw [cells, List.length_map, flat_len rows]
              exact Nat.mul_le_mul_right _ hn
            have := LV.own (ι := ι) (rd := [o]) (esz := ob.esz) o c ((c.l.drop off).take n) off ob.ag ob' rfl (by simp) hι hgo gen esz ag pos (fun d hd => rows d (List.mem_of_mem_drop (List.mem_of_mem_take hd))) (by rw [hlen]; exact h2) (by rw [hlen]; exact h1)
            rw [hlen] at this
            exact this
      · simp at h
    · simp at h
  | own o =>
    simp only [lstS] at h
    obtain ⟨⟨ob, a', S1, e1⟩, hs, heq⟩ := Option.map_eq_some_iff.1 h
    simp only [Prod.mk.injEq] at heq
    obtain ⟨rfl, rfl, rfl, rfl, rfl⟩ := heq
    refine (settle1_sp hs).mono fun env _ q τ ι tm g H hd hH => ?_
    obtain ⟨ι', hd', hfw, hH', h1, h2, h3, _⟩ := q τ ι tm g H hd hH
    refine ⟨ι', hd', hfw, hH', fun x hx => ?_⟩
    have hx' := hx.fw hfw
    rcases (hd'.ob o ob h1).plain h2 h3 with ⟨hι, ha⟩ | ⟨c, ob', hι, hk, ha, hg, gen, ty, esz, ag, pos, rows, cells⟩
    · cases hx' with
      | own hι2 => rw [hι] at hι2; simp at hι2
      | ownN hι2 => exact ⟨_, ha, .dat⟩
    · cases hx' with
      | ownN hι2 => rw [hι] at hι2; simp at hι2
      | own hι2 =>
        rw [hι] at hι2
        obtain rfl := Option.some.inj (Option.some.inj hι2)
        refine ⟨_, ha, ?_⟩
        rw [hk, Nat.add_zero]
        have hfl := flat_len rows
        refine .own o c c.l 0 ob.ag ob' rfl (by simp) hι hg gen esz ag pos rows (by rw [cells, List.length_map, hfl]; simp) ?_
        rw [Nat.zero_mul, List.drop_zero, cells, ← hfl, ← List.length_map (f := U.dat), List.take_length]
  | _ => simp [lstS] at h
theorem pop1 {env : List D} {o : POp} {a x : At} (q : ∃ ds d, atsD env [a] = some ds ∧ popD P o ds = some d ∧ atD env x = some d) {da : D} (ha : atD env a = some da) : ∃ d, popD P o [da] = some d ∧ atD env x = some d := by
  obtain ⟨ds, d, h1, h2, h3⟩ := q
  obtain ⟨d', l, h4, h5, rfl⟩ := atsD_cons h1
  simp [atsD] at h5
  subst h5
  rw [ha] at h4
  obtain rfl := Option.some.inj h4
  exact ⟨d, h2, h3⟩
theorem LV.src {ι : Pl} {g : Nat → Option V.Obj} {rd : List Nat} {d : D} {x : U} {n : Nat} (h : LV ι g rd n d x) {esz : Nat} {l : List D} (hl : srcD esz d = some l) {ag : Bool} (hr : ∀ x ∈ l, rowOk esz ag x = true) (hn : n = 0 ∨ n = esz) :
    ∃ rd', srcCells g esz x = some ((l.flatMap D.cells).map .dat, l.length, rd') ∧ Rd ι rd rd' := by
  cases h with
  | dat =>
    refine ⟨[], ?_, Rd.nil⟩
    cases d <;> simp only [srcD, reduceCtorEq, Option.some.injEq] at hl
    · rename_i s
      split at hl
      · rename_i he
        obtain rfl := Option.some.inj hl
        have he := Nat.eq_of_beq_eq_true he
        simp only [srcCells, if_pos he, bytesU, bytesD]
        have e1 : ∀ q : List UInt8, ((q.map fun b => D.int .u8 b.toNat).flatMap D.cells) = q.map fun b => D.int .u8 b.toNat := by
          intro q
          induction q with
          | nil => rfl
          | cons a r ih => rw [List.map_cons, List.flatMap_cons, ih]; rfl
        have e2 : ((s.data.toList.map fun b => D.int .u8 b.toNat)).length = s.size := by rw [List.length_map]; rfl
        rw [e1, List.map_map, e2]
        rfl
      · simp at hl
    · subst hl; rfl
    · subst hl
      rename_i es
      simp only [srcCells]
      rw [if_pos]
      rw [List.all_eq_true]
      intro y hy
      simp [rowOk_len (hr y hy)]
  | own o c l' off ag' ob hd ho hι hg gen he' ha pos rows hle hc =>
    subst hd
    simp only [srcD, Option.some.injEq] at hl
    subst hl
    have hne : n = esz := by rcases hn with h | h; omega; exact h
    subst hne
    refine ⟨[c.co], ?_, fun y hy => ?_⟩
    · simp only [srcCells, hg]
      rw [if_pos ⟨gen, he', hle⟩, hc]
    · simp only [List.mem_singleton] at hy
      subst hy
      exact ⟨o, c, ho, hι, rfl⟩
theorem opPure_len_nil {tm : List U} {o : Oper} {c : Call} {x : Operand} {t el : TypeId} (ho : o.op = .call c) (h1 : c.callee = .builtin .len) (h2 : c.args.toList = [x]) (h3 : c.argTypes.toList = [t]) (hx : evalU tm x = some (.dat .nil)) (ht : P.underlying t = some (.slice el)) :
    opPure P tm o = some ⟨.dat (.int .i64 0), [], []⟩ := by
  letI : Sig := sig0
  have hops : (Op.call c).operands.toList = [x] := by simp [Op.operands, Call.operands, h1, h2]
  have e1 : (evalU tm x).bind valU = some (.slice none 0 0) := by rw [hx]; rfl
  unfold opPure
  rw [ho, hops]
  simp only [List.all_cons, List.all_nil, e1, Option.isSome_some, Bool.and_self, if_true, Bool.and_true]
  obtain ⟨v, hv, hr⟩ := (orc_len (P := P) (a := .nil) (d := .int .i64 0) h1 h2 h3 ⟨0, rfl, .inl ⟨⟨el, ht⟩, .inl ⟨rfl, rfl⟩⟩⟩) F0 (fun _ _ h => by simp [F0] at h) (fun x => ((evalU tm x).bind valU).getD undef) o ho (fun i z e hz he => by
    rw [hops] at hz
    match i with
    | 0 => simp at hz he; subst hz; subst he; rw [e1]; exact .nil
    | i + 1 => simp at hz)
  simp only [hv]
  rw [const_int v hr]
  rfl
theorem append_nil {g : Nat → Option V.Obj} {id : Nat} {t tx el : TypeId} {i : TypeInfo} {ag : Bool} {z : List D} (hx : isRowT P tx = true) (ht : P.underlying t = some (.slice el)) (hi : P.info? el = some i) (ha : aggT P el = some ag) (hz : zeroT P el = some z)
    (h1 : 0 < i.size) (h2 : 0 < i.bytes) (h3 : z.length = i.size) {x : U} {xs : List U} {m : Nat} {rd : List Nat} (hs : srcCells g i.size x = some (xs, m, rd)) :
    opAppend P g id t tx (.dat .nil) x = if m = 0 then some ⟨.dat .nil, rd, []⟩ else if m * i.bytes ≤ 140737488355328 then some ⟨.own id 0 0 m, rd, [(id, ⟨el, i.size, ag, 0, false, xs⟩)]⟩ else none := by
  simp only [opAppend, hx, if_true, ht, hi, ha, hz]
  rw [if_pos ⟨h1, h2, h3⟩]
  simp only [hs]
theorem append_own {g : Nat → Option V.Obj} {id : Nat} {t tx el : TypeId} {i : TypeInfo} {ag : Bool} {z : List D} (hx : isRowT P tx = true) (ht : P.underlying t = some (.slice el)) (hi : P.info? el = some i) (ha : aggT P el = some ag) (hz : zeroT P el = some z)
    (h1 : 0 < i.size) (h2 : 0 < i.bytes) (h3 : z.length = i.size) {x : U} {xs : List U} {m : Nat} {rd : List Nat} (hs : srcCells g i.size x = some (xs, m, rd)) {o n : Nat} {ob : V.Obj} (hg : g o = some ob) (hn : n * i.size = ob.cells.length) (he : ob.esz = i.size) (hty : ob.ty = el) :
    opAppend P g id t tx (.own o ob.gen 0 n) x = if m = 0 then some ⟨.own o ob.gen 0 n, o :: rd, []⟩ else if (n + m) * i.bytes ≤ 140737488355328 then some ⟨.own o (ob.gen + 1) 0 (n + m), o :: rd, [(o, { ob with gen := ob.gen + 1, cells := ob.cells ++ xs })]⟩ else none := by
  simp only [opAppend, hx, if_true, ht, hi, ha, hz]
  rw [if_pos ⟨h1, h2, h3⟩]
  simp only [hs, hg]
  rw [if_pos ⟨trivial, trivial, hn, he, hty⟩]
theorem cat_ok {env : List D} {esz bytes : Nat} {ag : Bool} {a l x : At} (q : ∃ ds d, atsD env [a, l] = some ds ∧ popD P (.cat esz bytes ag) ds = some d ∧ atD env x = some d) {da dl : D} (ha : atD env a = some da) (hl : atD env l = some dl) :
    ∃ l0 es, lstOf da = some l0 ∧ srcD esz dl = some es ∧ (∀ y ∈ es, rowOk esz ag y = true) ∧ ((es = [] ∧ atD env x = some da) ∨ (es ≠ [] ∧ (l0.length + es.length) * bytes ≤ 140737488355328 ∧ atD env x = some (.lst (l0 ++ es)))) := by
  obtain ⟨ds, d, f4, f5, f6⟩ := q
  obtain ⟨df', ld, g4, g5, rfl⟩ := atsD_cons f4
  obtain ⟨dl', ln, g6, g7, rfl⟩ := atsD_cons g5
  simp [atsD] at g7
  subst g7
  rw [ha] at g4
  obtain rfl := Option.some.inj g4
  rw [hl] at g6
  obtain rfl := Option.some.inj g6
  simp only [popD] at f5
  split at f5
  · rename_i l0 es e1 e2
    refine ⟨l0, es, e1, e2, ?_⟩
    split at f5
    · rename_i hemp
      have : es = [] := by simpa using hemp
      subst this
      obtain rfl := Option.some.inj f5
      exact ⟨by simp, .inl ⟨rfl, f6⟩⟩
    · rename_i hemp
      split at f5
      · rename_i hc
        simp only [Bool.and_eq_true, List.all_eq_true] at hc
        obtain rfl := Option.some.inj f5
        exact ⟨hc.1, .inr ⟨by simpa using hemp, Nat.le_of_ble_eq_true hc.2, f6⟩⟩
      · simp at f5
  · simp at f5
theorem Den.newN {τ : Tg} {env : List D} {ι : Pl} {S : SSt} {tm : List U} {g : Nat → Option V.Obj} (h : Den τ env ι S tm g) {so : SObj} (hdo : ∀ ι', ι' S.nx = some none → DO τ env ι' g S.nx so) :
    ∃ ι', Den τ env ι' (newObj S so) tm g ∧ ι' S.nx = some none ∧ (∀ o, o ≠ S.nx → ι' o = ι o) := by
  have h0 : ι S.nx = none := by
    cases e : ι S.nx with
    | none => rfl
    | some x =>
      obtain ⟨so', hs⟩ := h.dom _ _ e
      rw [h.nxS _ (Nat.le_refl _)] at hs
      simp at hs
  let ι' : Pl := fun o => if o = S.nx then some none else ι o
  have e1 : ι' S.nx = some none := if_pos rfl
  have e2 : ∀ o, o ≠ S.nx → ι' o = ι o := fun o ho => if_neg ho
  have hfw : Fw ι ι' := Fw.of_ext fun o x hx => by
    by_cases e : o = S.nx
    · subst e; rw [h0] at hx; simp at hx
    · rw [e2 o e]; exact hx
  refine ⟨ι', ⟨h.tm.fw hfw, fun o so' hs => ?_, fun o x hx => ?_, fun o o' c1 c2 h1 h2 he => ?_, fun o ho => ?_⟩, e1, e2⟩
  · simp only [newObj] at hs
    rw [getS_app (h.nxS _ (Nat.le_refl _))] at hs
    split at hs
    · rename_i e
      subst e
      obtain rfl := Option.some.inj hs
      exact hdo ι' e1
    · rename_i e
      exact (h.ob o so' hs).same (e2 o e) (fun _ _ => rfl) fun us hu => hu.fw hfw
  · simp only [newObj]
    rw [getS_app (h.nxS _ (Nat.le_refl _))]
    split
    · exact ⟨_, rfl⟩
    · rename_i e
      rw [e2 o e] at hx
      exact h.dom o x hx
  · have k : ∀ {p : Nat} {c : Loc}, ι' p = some (some c) → ι p = some (some c) := by
      intro p c hp
      by_cases e : p = S.nx
      · subst e; rw [e1] at hp; simp at hp
      · rw [e2 p e] at hp; exact hp
    exact h.inj o o' c1 c2 (k h1) (k h2) he
  · simp only [newObj] at ho ⊢
    rw [getS_app (h.nxS _ (Nat.le_refl _)), if_neg (by omega)]
    exact h.nxS o (by omega)
end
end Go.Proofs.YtjofhegodknmaaaGreat.W
namespace Go.Proofs.YtjofhegodknmaaaGreat.W
open Go Go.RowKit
open V hiding At
section
variable {P : Program} {CR : Nat → List D → List D → Prop}
theorem staleT_ok {env : List D} {ι ι' : Pl} {o : Nat} (hne : ∀ p, p ≠ o → ι' p = ι p) {u : SU} {x : U} (h : DU env ι u x) : DU env ι' (stale o true u) x := by
  have lists : ∀ {cs : List SU} {us : List U}, us.length = cs.length → (∀ (i : Nat) c u, cs[i]? = some c → us[i]? = some u → DU env ι' (stale o true c) u) → us.length = (staleL o true cs).length ∧ ∀ (i : Nat) c u, (staleL o true cs)[i]? = some c → us[i]? = some u → DU env ι' c u := by
    intro cs us hl h
    rw [staleL_eq]
    refine ⟨by simp [hl], fun i c u hc hu => ?_⟩
    rw [List.getElem?_map] at hc
    obtain ⟨c0, h0, rfl⟩ := Option.map_eq_some_iff.1 hc
    exact h i c0 u h0 hu
  have nb : ∀ {p : Nat}, ¬ Nat.beq p o = true → p ≠ o := fun hn e => hn (by rw [e]; exact Nat.beq_refl o)
  induction h with
  | «at» h => simp only [stale]; exact .at h
  | fp h hs => simp only [stale]; exact .fp h hs
  | ptr h =>
    simp only [stale, Bool.true_and]
    split
    · exact .junk _
    · rename_i hn; exact .ptr (by rw [hne _ (nb hn)]; exact h)
  | ep h hi he hz =>
    simp only [stale]
    split
    · exact .junk _
    · rename_i hn; exact .ep (by rw [hne _ (nb hn)]; exact h) hi he hz
  | own h =>
    simp only [stale, Bool.true_and]
    split
    · exact .junk _
    · rename_i hn; exact .own (by rw [hne _ (nb hn)]; exact h)
  | ownN h =>
    simp only [stale, Bool.true_and]
    split
    · exact .junk _
    · rename_i hn; exact .ownN (by rw [hne _ (nb hn)]; exact h)
  | sub h hn' hi hj =>
    simp only [stale, Bool.true_and]
    split
    · exact .junk _
    · rename_i hn; exact .sub (by rw [hne _ (nb hn)]; exact h) hn' hi hj
  | subN h hi hj =>
    simp only [stale, Bool.true_and]
    split
    · exact .junk _
    · rename_i hn; exact .subN (by rw [hne _ (nb hn)]; exact h) hi hj
  | map h =>
    simp only [stale, Bool.true_and]
    split
    · exact .junk _
    · rename_i hn; exact .map (by rw [hne _ (nb hn)]; exact h)
  | agg hl h ho ih =>
    obtain ⟨h1, h2⟩ := lists hl ih
    simp only [stale]
    exact .agg h1 h2 ho
  | tup hl h ih =>
    obtain ⟨h1, h2⟩ := lists hl ih
    simp only [stale]
    exact .tup h1 h2
  | fn hl h ih =>
    obtain ⟨h1, h2⟩ := lists hl ih
    simp only [stale]
    exact .fn h1 h2
  | undef => simp only [stale]; exact .undef
  | junk u => simp only [stale]; exact .junk u
theorem staleT_oks {env : List D} {ι ι' : Pl} {o : Nat} (hne : ∀ p, p ≠ o → ι' p = ι p) {cs : List SU} {us : List U} (h : DUs env ι cs us) : DUs env ι' (staleL o true cs) us := by
  rw [staleL_eq]
  refine ⟨by simp [h.1], fun i c u hc1 hu => ?_⟩
  rw [List.getElem?_map] at hc1
  obtain ⟨c0, h1, rfl⟩ := Option.map_eq_some_iff.1 hc1
  exact staleT_ok hne (h.2 i c0 u h1 hu)
theorem any_den {τ : Tg} {env : List D} {ι : Pl} {S : SSt} {tm : List U} {g g' : Nat → Option V.Obj} (hd : Den τ env ι S tm g) {o : Nat} {so so' : SObj} {v : Option Loc} (hs : getS S.st o = some so)
    (hg' : ∀ p c, p ≠ o → ι p = some (some c) → g' c.co = g c.co) (hi : ∀ c', v = some c' → ∀ p c, p ≠ o → ι p = some (some c) → c.co ≠ c'.co)
    (hdo : ∀ ι', ι' o = some v → (∀ p, p ≠ o → ι' p = ι p) → (∀ cs us, DUs env ι cs us → DUs env ι' (staleL o true cs) us) → DO τ env ι' g' o so') :
    ∃ ι', Den τ env ι' { staleS o true S with st := setS (staleS o true S).st o so' } tm g' ∧ ι' o = some v ∧ ∀ p, p ≠ o → ι' p = ι p := by
  let ι' : Pl := fun p => if p = o then some v else ι p
  have e1 : ι' o = some v := if_pos rfl
  have e2 : ∀ p, p ≠ o → ι' p = ι p := fun p hp => if_neg hp
  have hst : ∀ cs us, DUs env ι cs us → DUs env ι' (staleL o true cs) us := fun cs us h => staleT_oks e2 h
  refine ⟨ι', ⟨hst _ _ hd.tm, fun p sp hp => ?_, fun p x hx => ?_, fun p q c1 c2 h1 h2 he => ?_, fun p hp => ?_⟩, e1, e2⟩
  · simp only at hp
    rw [getS_set] at hp
    split at hp
    · rename_i e
      subst e
      obtain rfl := Option.some.inj hp
      exact hdo ι' e1 e2 hst
    · rename_i e
      rw [getS_stale] at hp
      obtain ⟨b, hb, rfl⟩ := Option.map_eq_some_iff.1 hp
      exact (hd.ob p b hb).move (e2 p e) (fun c1 h1 => hg' p c1 e h1) ⟨rfl, rfl, rfl, rfl, rfl, rfl, rfl⟩ (fun us hu => hst _ us hu) (fun hn => by simp only [hn, staleL])
  · simp only
    rw [getS_set]
    split
    · exact ⟨_, rfl⟩
    · rename_i e
      rw [e2 p e] at hx
      obtain ⟨b, hb⟩ := hd.dom p x hx
      rw [getS_stale, hb]
      exact ⟨_, rfl⟩
  · by_cases e3 : p = o
    · by_cases e4 : q = o
      · rw [e3, e4]
      · subst e3
        rw [e1] at h1
        obtain rfl := Option.some.inj h1
        rw [e2 q e4] at h2
        exact absurd he.symm (hi c1 rfl q c2 e4 h2)
    · by_cases e4 : q = o
      · subst e4
        rw [e1] at h2
        obtain rfl := Option.some.inj h2
        rw [e2 p e3] at h1
        exact absurd he (hi c2 rfl p c1 e3 h1)
      · rw [e2 p e3] at h1
        rw [e2 q e4] at h2
        exact hd.inj p q c1 c2 h1 h2 he
  · simp only [staleS] at hp ⊢
    rw [getS_set, if_neg]
    · have := getS_stale (S := S) (o := o) (all := true) p
      simp only [staleS] at this
      rw [this, hd.nxS p hp]
      rfl
    · intro e
      subst e
      rw [hd.nxS _ hp] at hs
      simp at hs
theorem getS_beq {a b : Bool} (h : (a == b) = true) : a = b := by simpa using h
theorem appendD_ok {S : SSt} {e : Em} {t tx el : TypeId} {i : TypeInfo} {ag : Bool} {z : List D} (hx : isRowT P tx = true) (ht : P.underlying t = some (.slice el)) (hi : P.info? el = some i) (ha : aggT P el = some ag) (hz : zeroT P el = some z)
    (h1 : 0 < i.size) (h2 : 0 < i.bytes) (h3 : z.length = i.size) (h4 : ag = true ∨ i.size = 1) {s : SU} {a : At} {rd : List Nat} {r : SR} (h : appendD P S e el i.size i.bytes ag s a rd = some r) :
    Sp P CR e r.e fun env => ∀ τ ι tm g id H, Den τ env ι S tm g → HOk ι H → g id = none → ∀ x y d n, DU env ι s x → atD env a = some d → LV ι g rd n d y → (n = 0 ∨ n = i.size) → ∃ res, opAppend P g id t tx x y = some res ∧ OpPost τ env r.S r.u r.rd r.up tm g id H res := by
  unfold appendD at h
  split at h
  · obtain ⟨q, hq, rfl⟩ := Option.map_eq_some_iff.1 h
    refine (fold_sp hq).mono fun env _ q1 τ ι tm g id H hd hH hid x y d n hxs had hlv hn => ?_
    obtain ⟨l0, es, f1, f2, f3, f4⟩ := cat_ok q1 rfl had
    simp only [lstOf, Option.some.injEq] at f1
    subst f1
    obtain ⟨rd', f5, f6⟩ := hlv.src f2 f3 hn
    cases hxs with
    | «at» hat =>
      simp only [atD, Option.some.injEq] at hat
      subst hat
      have happ := append_nil (id := id) hx ht hi ha hz h1 h2 h3 f5
      rcases f4 with ⟨rfl, f7⟩ | ⟨hne, f7, f8⟩
      · refine ⟨⟨.dat .nil, rd', []⟩, by rw [happ, if_pos List.length_nil], ?_⟩
        obtain ⟨ι', k1, k2, k3⟩ := hd.newN (so := ⟨el, i.size, i.bytes, ag, false, none, some q.1, [], none⟩) fun ι' hι' => .nil q.1 rfl hι' f7 rfl (by simp)
        have hold : ∀ o c, ι' o = some (some c) → ι o = some (some c) := fun o c ho => by
          by_cases e : o = S.nx
          · subst e; rw [k2] at ho; simp at ho
          · rw [k3 o e] at ho; exact ho
        exact ⟨ι', H, k1, .ownN k2, fun _ _ => rfl, fun o c ho => hH o c (hold o c ho), rd_ok hH hd f6, fun p hp => by simp at hp⟩
      · have hm : ¬ es.length = 0 := fun e => hne (List.eq_nil_of_length_eq_zero e)
        refine ⟨⟨.own id 0 0 es.length, rd', [(id, ⟨el, i.size, ag, 0, false, (es.flatMap D.cells).map .dat⟩)]⟩, ?_, ?_⟩
        · rw [happ, if_neg hm, if_pos (by simpa using f7)]
        · refine new_post hd hH hid (c := ⟨id, 0, es, 0⟩) rfl (fun ι' h6 hf => ?_) (fun ι' h6 hf => ?_) f6 (by simp)
          · exact .row q.1 _ _ [] rfl h6 (by rw [updF_one, if_pos rfl]) rfl rfl rfl rfl h1 h4 (by simp) (.inl (by simpa using f8)) f3 (by simp) DUs.nil (by simp) (by simp) (by simp)
          · have := DU.own (env := env) h6
            simpa using this
  · rename_i o
    split at h
    · rename_i ob a1 S1 e1 hs
      split at h
      · rename_i hc
        simp only [Bool.and_eq_true] at hc
        obtain ⟨⟨⟨c1, c2⟩, c3⟩, c4⟩ := hc
        obtain ⟨q, hq, rfl⟩ := Option.map_eq_some_iff.1 h
        refine Sp.then (settle1_sp hs) (fold_sp hq) fun env q0 q1 τ ι tm g id H hd hH hid x y d n hxs had hlv hn => ?_
        obtain ⟨ι1, hd1, hfw, hH1, g1, g2, g3, _⟩ := q0 τ ι tm g H hd hH
        have c1 := Nat.eq_of_beq_eq_true c1
        have c2 := Nat.eq_of_beq_eq_true c2
        have c4 := getS_beq c4
        have hxs' := hxs.fw hfw
        have hrd : ∀ {rd'}, Rd ι rd rd' → Rd ι1 rd rd' := fun hr y hy => by
          obtain ⟨p, c, k1, k2, k3⟩ := hr y hy
          obtain ⟨c', k4, k5, _⟩ := hfw p _ k2
          exact ⟨p, c', k1, k4, by rw [k5, k3]⟩
        rcases (hd1.ob o ob g1).plain g2 g3 with ⟨hι, hat⟩ | ⟨c, ob', hι, hk, hat, hg, gen, ty, esz, ag', pos, rows, cells⟩
        · -- it was nil
          obtain ⟨l0, es, f1, f2, f3, f4⟩ := cat_ok q1 hat had
          simp only [lstOf, Option.some.injEq] at f1
          subst f1
          obtain ⟨rd', f5, f6⟩ := hlv.src f2 f3 hn
          cases hxs' with
          | own hι2 => rw [hι] at hι2; simp at hι2
          | ownN hι2 =>
            have happ := append_nil (id := id) hx ht hi ha hz h1 h2 h3 f5
            rcases f4 with ⟨rfl, f7⟩ | ⟨hne, f7, f8⟩
            · refine ⟨⟨.dat .nil, rd', []⟩, by rw [happ, if_pos List.length_nil], ?_⟩
              obtain ⟨ι', k1, k2, k3⟩ := any_den hd1 (o := o) (g' := g) (v := none) (so' := { ob with tag := none, row := some q.1 }) g1 (fun _ _ _ _ => rfl) (fun c' h => by simp at h) fun ι' k1 k2 k3 => .nil q.1 rfl k1 f7 g3 (by simp)
              have hold : ∀ p c, ι' p = some (some c) → ι1 p = some (some c) := fun p c hp => by
                by_cases e : p = o
                · subst e; rw [k2] at hp; simp at hp
                · rw [k3 p e] at hp; exact hp
              refine ⟨ι', H, k1, .ownN k2, fun _ _ => rfl, fun p c hp => hH1 p c (hold p c hp), fun y hy => ?_, fun p hp => by simp at hp⟩
              have := rd_ok hH hd f6 y hy
              exact ⟨List.mem_cons_of_mem _ this.1, this.2⟩
            · have hm : ¬ es.length = 0 := fun e => hne (List.eq_nil_of_length_eq_zero e)
              refine ⟨⟨.own id 0 0 es.length, rd', [(id, ⟨el, i.size, ag, 0, false, (es.flatMap D.cells).map .dat⟩)]⟩, ?_, ?_⟩
              · rw [happ, if_neg hm, if_pos (by simpa using f7)]
              · have hne2 : ∀ p c, ι1 p = some (some c) → c.co ≠ id := fun p c hp he => by
                  obtain ⟨_, ob2, _, hg2, _⟩ := hd1.at hp
                  rw [he, hid] at hg2
                  simp at hg2
                obtain ⟨ι', k1, k2, k3⟩ := any_den hd1 (o := o) (g' := updF g [(id, ⟨el, i.size, ag, 0, false, (es.flatMap D.cells).map .dat⟩)]) (v := some ⟨id, 0, es, 0⟩) (so' := { ob with tag := none, row := some q.1 }) g1
                  (fun p c _ hp => by rw [updF_one, if_neg (hne2 p c hp)]) (fun c' h p c _ hp => by obtain rfl := Option.some.inj h; exact hne2 p c hp) fun ι' k1 k2 k3 =>
                  .row q.1 _ _ [] rfl k1 (by rw [updF_one, if_pos rfl]) rfl (by simp [c1]) (by simp [c2]) (by simp [c4]) (by simp only [c2]; exact h1) (by simp only [c2, c4]; exact h4) (by simp) (.inl (by simpa using f8)) (by simp only [c2, c4]; exact f3) (by simp) (by simp only [g3]; exact DUs.nil) (by simp) (by simp) (by simp)
                refine ⟨ι', fun x => if x = id then o else H x, k1, ?_, fun x hx => if_neg hx, fun p c hp => ?_, fun y hy => ?_, fun p hp => ?_⟩
                · have := DU.own (env := env) k2
                  simpa using this
                · by_cases e : p = o
                  · subst e
                    rw [k2] at hp
                    obtain rfl := Option.some.inj (Option.some.inj hp)
                    simp
                  · rw [k3 p e] at hp
                    simp only [if_neg (hne2 p c hp)]
                    exact hH1 p c hp
                · obtain ⟨p, c, m1, m2, rfl⟩ := hrd f6 y hy
                  simp only [if_neg (hne2 p c m2)]
                  have := rd_ok hH hd f6 c.co hy
                  exact ⟨List.mem_cons_of_mem _ this.1, this.2⟩
                · simp only [List.mem_singleton] at hp
                  subst hp
                  simp
        · -- it is there
          obtain ⟨l0, es, f1, f2, f3, f4⟩ := cat_ok q1 hat had
          simp only [lstOf, Option.some.injEq] at f1
          subst f1
          obtain ⟨rd', f5, f6⟩ := hlv.src f2 f3 hn
          cases hxs' with
          | ownN hι2 => rw [hι] at hι2; simp at hι2
          | own hι2 =>
            rw [hι] at hι2
            obtain rfl := Option.some.inj (Option.some.inj hι2)
            have hcl : (c.l.length + c.k) * i.size = ob'.cells.length := by rw [cells, List.length_map, flat_len rows, hk, c2, Nat.add_zero]
            have happ := append_own (id := id) hx ht hi ha hz h1 h2 h3 f5 hg hcl (by rw [esz, c2]) (by rw [ty, c1])
            rw [gen] at happ
            rcases f4 with ⟨rfl, f7⟩ | ⟨hne, f7, f8⟩
            · refine ⟨⟨.own c.co c.cg 0 (c.l.length + c.k), c.co :: rd', []⟩, by rw [happ, if_pos List.length_nil], ?_⟩
              obtain ⟨ι', k1, k2, k3⟩ := any_den hd1 (o := o) (g' := g) (v := some c) (so' := { ob with tag := none, row := some q.1 }) g1 (fun _ _ _ _ => rfl) (fun c' h p c2 hp h2 => by
                  obtain rfl := Option.some.inj h
                  exact fun he => hp (hd1.inj p o c2 _ h2 hι he)) fun ι' k1 k2 k3 => by
                cases hd1.ob o ob g1 with
                | var c' ob'' hr' => rw [hr'] at g2; simp at g2
                | map a9 c9 ob9 l9 hr' => rw [hr'] at g2; simp at g2
                | nil a' hr' hι' => rw [hι'] at hι; simp at hι
                | row a' c' ob'' us hr' hι' hg' gen' ty' esz' ag'' pos' agOk snap front rows' cells' beh one len tag =>
                  rw [hι] at hι'
                  obtain rfl := Option.some.inj (Option.some.inj hι')
                  rw [g3] at beh
                  obtain rfl := DUs.inv_nil beh
                  exact .row q.1 c ob'' [] rfl k1 hg' gen' ty' esz' ag'' pos' agOk snap (.inl f7) rows' cells' (by simp only [g3]; exact DUs.nil) (by simp) (by simpa using len) (by simp)
              refine ⟨ι', H, k1, .own k2, fun _ _ => rfl, fun p d hp => ?_, fun y hy => ?_, fun p hp => by simp at hp⟩
              · by_cases e : p = o
                · subst e
                  rw [k2] at hp
                  obtain rfl := Option.some.inj (Option.some.inj hp)
                  exact hH1 _ _ hι
                · rw [k3 p e] at hp; exact hH1 p d hp
              · rcases List.mem_cons.1 hy with rfl | hy
                · exact ⟨by rw [hH1 o c hι]; simp, by rw [hg]; simp⟩
                · have := rd_ok hH hd f6 y hy
                  exact ⟨List.mem_cons_of_mem _ this.1, this.2⟩
            · have hm : ¬ es.length = 0 := fun e => hne (List.eq_nil_of_length_eq_zero e)
              refine ⟨⟨.own c.co (c.cg + 1) 0 (c.l.length + c.k + es.length), c.co :: rd', [(c.co, { ob' with gen := c.cg + 1, cells := ob'.cells ++ (es.flatMap D.cells).map .dat })]⟩, ?_, ?_⟩
              · rw [happ, if_neg hm, if_pos (by rw [hk]; simpa using f7)]
              · refine upd_post (c' := ⟨c.co, c.cg + 1, c.l ++ es, 0⟩) (all := true) hd1 hH1 g1 hι hg rfl (by simp) (fun ι' k1 k2 k3 => ?_) (fun ι' k1 => ?_) ?_ (by simp)
                · cases hd1.ob o ob g1 with
                  | var c' ob'' hr' => rw [hr'] at g2; simp at g2
                  | map a9 c9 ob9 l9 hr' => rw [hr'] at g2; simp at g2
                  | nil a' hr' hι' => rw [hι'] at hι; simp at hι
                  | row a' c' ob'' us hr' hι' hg' gen' ty' esz' ag'' pos' agOk snap front rows' cells' beh one len tag =>
                    rw [hι] at hι'
                    obtain rfl := Option.some.inj (Option.some.inj hι')
                    rw [hg] at hg'
                    obtain rfl := Option.some.inj hg'
                    refine .row q.1 ⟨c.co, c.cg + 1, c.l ++ es, 0⟩ { ob' with gen := c.cg + 1, cells := ob'.cells ++ (es.flatMap D.cells).map .dat } [] rfl k1 (by simp only [updF_one, if_true]) rfl ty' esz' ag'' pos' agOk snap (.inl f8) (fun d hd => ?_) ?_ (by simp only [g3]; exact DUs.nil) (by simp) (by simp) (by simp)
                    · rcases List.mem_append.1 hd with hd | hd
                      · exact rows d hd
                      · simp only [c2, c4]; exact f3 d hd
                    · simp only [cells, List.flatMap_append, List.map_append, List.append_nil]
                · have e0 : c.l.length + c.k + es.length = (c.l ++ es).length + 0 := by rw [hk, List.length_append]; rfl
                  simp only [e0]
                  exact .own k1
                · exact Rd.cons hι (hrd f6)
      · simp at h
    · simp at h
  · simp at h
end
end Go.Proofs.YtjofhegodknmaaaGreat.W
namespace Go.Proofs.YtjofhegodknmaaaGreat.W
open Go Go.RowKit
open V hiding At
section
variable {P : Program} {CR : Nat → List D → List D → Prop}
theorem DO.behind {τ : Tg} {env : List D} {ι : Pl} {g : Nat → Option V.Obj} {o : Nat} {so : SObj} {a : At} (h : DO τ env ι g o so) (hr : so.row = some a) :
    (ι o = some none ∧ atD env a = some .nil ∧ so.cells = []) ∨ ∃ c ob us da, ι o = some (some c) ∧ atD env a = some da ∧ lstOf da = some c.l ∧ g c.co = some ob ∧ ob.gen = c.cg ∧ ob.ty = so.ty ∧ ob.esz = so.esz ∧ ob.ag = so.ag ∧ 0 < so.esz ∧ (so.ag = true ∨ so.esz = 1) ∧ (ob.snap = true → so.snap = true) ∧
      (atD env a = some (.lst c.l) ∨ (atD env a = some .nil ∧ c.l = [] ∧ 0 < c.k)) ∧ (∀ d ∈ c.l, rowOk so.esz so.ag d = true) ∧ ob.cells = (c.l.flatMap D.cells).map .dat ++ us ∧ DUs env ι so.cells us ∧ (∀ u ∈ us, u.one = true) ∧ us.length = c.k * so.esz ∧ ob.cells.length = (c.l.length + c.k) * so.esz := by
  cases h with
  | var c ob hr' => rw [hr'] at hr; simp at hr
  | map a9 c9 ob9 l9 hr' => rw [hr'] at hr; simp at hr
  | nil a' hr' hι ha hc =>
    rw [hr] at hr'
    obtain rfl := Option.some.inj hr'
    exact .inl ⟨hι, ha, hc⟩
  | row a' c ob us hr' hι hg gen ty esz ag pos agOk snap front rows cells beh one len tag =>
    rw [hr] at hr'
    obtain rfl := Option.some.inj hr'
    have hl : ob.cells.length = (c.l.length + c.k) * so.esz := by rw [cells, List.length_append, List.length_map, flat_len rows, len, Nat.add_mul]
    rcases front with hf | ⟨hf, h0, hk⟩
    · exact .inr ⟨c, ob, us, _, hι, hf, rfl, hg, gen, ty, esz, ag, pos, agOk, snap, .inl hf, rows, cells, beh, one, len, hl⟩
    · exact .inr ⟨c, ob, us, _, hι, hf, by rw [h0]; rfl, hg, gen, ty, esz, ag, pos, agOk, snap, .inr ⟨hf, h0, hk⟩, rows, cells, beh, one, len, hl⟩
theorem room_ok {env : List D} {k bytes : Nat} {a x : At} (q : ∃ ds d, atsD env [a] = some ds ∧ popD P (.room k bytes) ds = some d ∧ atD env x = some d) {da : D} (ha : atD env a = some da) {l : List D} (hl : lstOf da = some l) : (l.length + k) * bytes ≤ 140737488355328 := by
  obtain ⟨d, h1, _⟩ := pop1 q ha
  simp only [popD, hl] at h1
  split at h1
  · rename_i hc
    exact Nat.le_of_ble_eq_true hc
  · simp at h1
theorem appendH_ok {S : SSt} {e : Em} {t tx el : TypeId} {i : TypeInfo} {ag : Bool} {z : List D} (hx : isRowT P tx = true) (ht : P.underlying t = some (.slice el)) (hi : P.info? el = some i) (ha : aggT P el = some ag) (hz : zeroT P el = some z)
    (h1 : 0 < i.size) (h2 : 0 < i.bytes) (h3 : z.length = i.size) (h4 : ag = true ∨ i.size = 1) {s : SU} {rr : Nat} {r : SR} (h : appendH P S e el i.size i.bytes ag s rr = some r) :
    Sp P CR e r.e fun env => ∀ τ ι tm g id H, Den τ env ι S tm g → HOk ι H → g id = none → ∀ x y, DU env ι s x → DU env ι (.own rr) y → ∃ res, opAppend P g id t tx x y = some res ∧ OpPost τ env r.S r.u r.rd r.up tm g id H res := by
  unfold appendH at h
  split at h
  · rename_i rb hrb
    split at h
    · rename_i c0 cs0 hrow hcells
      split at h
      · rename_i hesz
        have hesz := Nat.eq_of_beq_eq_true hesz
        have key : ∀ {τ env ι tm g} , Den τ env ι S tm g → ∀ y, DU env ι (.own rr) y → ∃ c us, ι rr = some (some c) ∧ srcCells g i.size y = some (us, c.k, [c.co]) ∧ DUs env ι (c0 :: cs0) us ∧ (∀ u ∈ us, u.one = true) ∧ us.length = c.k * i.size ∧ 0 < c.k := by
          intro τ env ι tm g hd y hy
          rcases (hd.ob rr rb hrb).behind hrow with ⟨_, _, h0⟩ | ⟨c, ob, us, da, k1, k2, k3, k4, k5, k6, k7, k8, k9, k10, k11, k12, k13, k14, k15, k16, k17, k18⟩
          · rw [hcells] at h0; simp at h0
          · simp only [atD, Option.some.injEq] at k2
            subst k2
            simp only [lstOf, Option.some.injEq] at k3
            rw [hcells] at k15
            rw [hesz] at k17 k18 k7
            have hl0 : c.l.length = 0 := by rw [← k3]; rfl
            have hus : ob.cells = us := by rw [k14, ← k3]; rfl
            refine ⟨c, us, k1, ?_, k15, k16, k17, ?_⟩
            · cases hy with
              | ownN hι => rw [k1] at hι; simp at hι
              | own hι =>
                rw [k1] at hι
                obtain rfl := Option.some.inj (Option.some.inj hι)
                simp only [srcCells, k4, hl0, Nat.zero_add]
                rw [if_pos ⟨k5, k7, by rw [hus, k17]; exact Nat.le_refl _⟩, Nat.zero_mul, List.drop_zero, ← k17, hus, List.take_length]
            · have := k15.1
              simp only [List.length_cons] at this
              rcases Nat.eq_zero_or_pos c.k with h0 | h0
              · rw [h0] at k17; simp at k17; rw [k17] at this; simp at this
              · exact h0
        split at h
        · -- to nothing
          split at h
          · rename_i hb
            obtain rfl := Option.some.inj h
            refine Sp.refl fun env _ τ ι tm g id H hd hH hid x y hxs hy => ?_
            obtain ⟨c, us, k1, k2, k3, k4, k5, k6⟩ := key hd y hy
            cases hxs with
            | «at» hat =>
              simp only [atD, Option.some.injEq] at hat
              subst hat
              have happ := append_nil (id := id) hx ht hi ha hz h1 h2 h3 k2
              have hb := Nat.le_of_ble_eq_true hb
              have hlen : (c0 :: cs0).length = c.k * i.size := by rw [← k3.1, k5]
              rw [hlen, Nat.mul_div_cancel _ h1] at hb
              refine ⟨⟨.own id 0 0 c.k, [c.co], [(id, ⟨el, i.size, ag, 0, false, us⟩)]⟩, by rw [happ, if_neg (by omega), if_pos hb], ?_⟩
              refine new_post hd hH hid (c := ⟨id, 0, [], c.k⟩) rfl (fun ι' h6 hf => ?_) (fun ι' h6 hf => ?_) (Rd.cons k1 Rd.nil) (by simp)
              · exact .row (.c .nil) _ ⟨el, i.size, ag, 0, false, us⟩ us rfl h6 (by rw [updF_one, if_pos rfl]) rfl rfl rfl rfl h1 h4 (by simp) (.inr ⟨rfl, rfl, k6⟩) (by simp) (by simp) (k3.fw hf) k4 k5 (by simp)
              · have := DU.own (env := env) h6
                simpa using this
          · simp at h
        · -- to a row
          rename_i o
          split at h
          · rename_i ob ho
            split at h
            · rename_i a harow
              split at h
              · rename_i hc
                simp only [Bool.and_eq_true, Bool.not_eq_true'] at hc
                obtain ⟨⟨⟨⟨c1, c2⟩, c3⟩, c4⟩, c5⟩ := hc
                have c1 := Nat.eq_of_beq_eq_true c1
                have c2 := Nat.eq_of_beq_eq_true c2
                have c4 := getS_beq c4
                obtain ⟨q, hq, rfl⟩ := Option.map_eq_some_iff.1 h
                refine (fold_sp hq).mono fun env _ q1 τ ι tm g id H hd hH hid x y hxs hy => ?_
                obtain ⟨cr, usr, m1, m2, m3, m4, m5, m6⟩ := key hd y hy
                have hlen : (c0 :: cs0).length = cr.k * i.size := by rw [← m3.1, m5]
                rcases (hd.ob o ob ho).behind harow with ⟨hι, hat, hoc⟩ | ⟨c, ob', us, da, hι, hat, hlo, hg, gen, ty, esz, ag', pos, agOk, snap, front, rows, cells, beh, one, len, hcl⟩
                · -- that was nil
                  have hroom := room_ok q1 hat (l := []) rfl
                  cases hxs with
                  | own hι2 => rw [hι] at hι2; simp at hι2
                  | ownN hι2 =>
                    have happ := append_nil (id := id) hx ht hi ha hz h1 h2 h3 m2
                    rw [hoc, hlen] at hroom
                    simp only [List.length_nil, Nat.zero_add, Nat.mul_div_cancel _ h1] at hroom
                    refine ⟨⟨.own id 0 0 cr.k, [cr.co], [(id, ⟨el, i.size, ag, 0, false, usr⟩)]⟩, by rw [happ, if_neg (by omega), if_pos hroom], ?_⟩
                    have hne2 : ∀ p c, ι p = some (some c) → c.co ≠ id := fun p c hp he => by
                      obtain ⟨_, ob2, _, hg2, _⟩ := hd.at hp
                      rw [he, hid] at hg2
                      simp at hg2
                    obtain ⟨ι', k1, k2, k3⟩ := any_den hd (o := o) (g' := updF g [(id, ⟨el, i.size, ag, 0, false, usr⟩)]) (v := some ⟨id, 0, [], cr.k⟩) (so' := { ob with tag := none, cells := staleL o true ob.cells ++ staleL o true (c0 :: cs0) }) ho
                      (fun p c _ hp => by rw [updF_one, if_neg (hne2 p c hp)]) (fun c' h p c _ hp => by obtain rfl := Option.some.inj h; exact hne2 p c hp) fun ι' k1 k2 k3 =>
                      .row a _ ⟨el, i.size, ag, 0, false, usr⟩ usr harow k1 (by rw [updF_one, if_pos rfl]) rfl (by simp [c1]) (by simp [c2]) (by simp [c4]) (by simp only [c2]; exact h1) (by simp only [c2, c4]; exact h4) (by simp) (.inr ⟨hat, rfl, m6⟩) (by simp) (by simp)
                        (by simp only [hoc, staleL, List.nil_append]; exact k3 _ _ m3) m4 (by simp only [c2]; exact m5) (by simp)
                    refine ⟨ι', fun x => if x = id then o else H x, k1, ?_, fun x hx => if_neg hx, fun p c hp => ?_, fun y hy => ?_, fun p hp => ?_⟩
                    · have := DU.own (env := env) k2
                      simpa using this
                    · by_cases e : p = o
                      · subst e
                        rw [k2] at hp
                        obtain rfl := Option.some.inj (Option.some.inj hp)
                        simp
                      · rw [k3 p e] at hp
                        simp only [if_neg (hne2 p c hp)]
                        exact hH p c hp
                    · simp only [List.mem_singleton] at hy
                      subst hy
                      simp only [if_neg (hne2 rr cr m1)]
                      obtain ⟨_, ob2, _, hg2, _⟩ := hd.at m1
                      exact ⟨by rw [hH rr cr m1]; simp, by rw [hg2]; simp⟩
                    · simp only [List.mem_singleton] at hp
                      subst hp
                      simp
                · -- that is there
                  have hroom := room_ok q1 hat hlo
                  cases hxs with
                  | ownN hι2 => rw [hι] at hι2; simp at hι2
                  | own hι2 =>
                    rw [hι] at hι2
                    obtain rfl := Option.some.inj (Option.some.inj hι2)
                    have happ := append_own (id := id) hx ht hi ha hz h1 h2 h3 m2 hg (by rw [hcl, c2]) (by rw [esz, c2]) (by rw [ty, c1])
                    rw [gen] at happ
                    have hoc : ob.cells.length = c.k * i.size := by rw [← beh.1, len, c2]
                    have hdiv : (ob.cells.length + (c0 :: cs0).length) / i.size = c.k + cr.k := by rw [hoc, hlen, ← Nat.add_mul, Nat.mul_div_cancel _ h1]
                    rw [hdiv, ← Nat.add_assoc] at hroom
                    refine ⟨⟨.own c.co (c.cg + 1) 0 (c.l.length + c.k + cr.k), [c.co, cr.co], [(c.co, { ob' with gen := c.cg + 1, cells := ob'.cells ++ usr })]⟩, by rw [happ, if_neg (by omega), if_pos hroom], ?_⟩
                    refine upd_post (c' := ⟨c.co, c.cg + 1, c.l, c.k + cr.k⟩) (all := true) hd hH ho hι hg rfl (by simp) (fun ι' k1 k2 k3 => ?_) (fun ι' k1 => ?_) (Rd.cons hι (Rd.cons m1 Rd.nil)) (by simp)
                    · refine .row a ⟨c.co, c.cg + 1, c.l, c.k + cr.k⟩ { ob' with gen := c.cg + 1, cells := ob'.cells ++ usr } (us ++ usr) harow k1 (by simp only [updF_one, if_true]) rfl ty esz ag' pos agOk snap ?_ rows ?_ ?_ ?_ ?_ (by simp)
                      · rcases front with hf | ⟨hf, h0, hk⟩
                        · exact .inl hf
                        · exact .inr ⟨hf, h0, by simp only; omega⟩
                      · simp only [cells, List.append_assoc]
                      · exact (k2 us beh).app (k3 _ _ m3)
                      · intro u hu
                        rcases List.mem_append.1 hu with hu | hu
                        · exact one u hu
                        · exact m4 u hu
                      · simp only [List.length_append, len, m5, c2, Nat.add_mul]
                    · have e0 : c.l.length + c.k + cr.k = c.l.length + (c.k + cr.k) := by omega
                      rw [e0]
                      exact .own k1
              · simp at h
            · simp at h
          · simp at h
        · simp at h
      · simp at h
    · simp at h
  · simp at h
theorem Rd.fw {ι ι' : Pl} (hf : Fw ι ι') {rd rd' : List Nat} (h : Rd ι rd rd') : Rd ι' rd rd' := fun y hy => by
  obtain ⟨p, c, k1, k2, k3⟩ := h y hy
  obtain ⟨c', k4, k5, _⟩ := hf p _ k2
  exact ⟨p, c', k1, k4, by rw [k5, k3]⟩
theorem sAppend_ok {S : SSt} {e : Em} {t tx : TypeId} {s x : SU} {r : SR} (h : sAppend P S e t tx s x = some r) :
    Sp P CR e r.e fun env => ∀ τ ι tm g id H, Den τ env ι S tm g → HOk ι H → g id = none → ∀ u y, DU env ι s u → DU env ι x y → ∃ res, opAppend P g id t tx u y = some res ∧ OpPost τ env r.S r.u r.rd r.up tm g id H res := by
  unfold sAppend at h
  split at h
  · rename_i hx
    split at h
    · rename_i el ht
      split at h
      · rename_i i ag z hi ha hz
        split at h
        · rename_i hc
          simp only [Bool.and_eq_true, Bool.or_eq_true] at hc
          obtain ⟨⟨⟨c1, c2⟩, c3⟩, c4⟩ := hc
          have c1 := Nat.le_of_ble_eq_true c1
          have c2 := Nat.le_of_ble_eq_true c2
          have c3 := Nat.eq_of_beq_eq_true c3
          have c4 : ag = true ∨ i.size = 1 := by
            rcases c4 with c4 | c4
            · exact .inl c4
            · exact .inr (Nat.eq_of_beq_eq_true c4)
          split at h
          · rename_i a S1 e1 rd n hl
            split at h
            · rename_i hn
              simp only [Bool.or_eq_true] at hn
              have hn : n = 0 ∨ n = i.size := by
                rcases hn with hn | hn
                · exact .inl (Nat.eq_of_beq_eq_true hn)
                · exact .inr (Nat.eq_of_beq_eq_true hn)
              refine Sp.then (lstS_sp hl) (appendD_ok hx ht hi ha hz c1 c2 c3 c4 h) fun env q1 q2 τ ι tm g id H hd hH hid u y hu hy => ?_
              obtain ⟨ι', hd', hfw, hH', hv⟩ := q1 τ ι tm g H hd hH
              obtain ⟨d, h1, h2⟩ := hv y hy
              exact q2 τ ι' tm g id H hd' hH' hid u y d n (hu.fw hfw) h1 h2 hn
            · simp at h
          · split at h
            · rename_i rr _
              refine (appendH_ok hx ht hi ha hz c1 c2 c3 c4 h).mono fun env _ q τ ι tm g id H hd hH hid u y hu hy => ?_
              exact q τ ι tm g id H hd hH hid u y hu hy
            · simp at h
        · simp at h
      · simp at h
    · simp at h
  · simp at h
end
end Go.Proofs.YtjofhegodknmaaaGreat.W
namespace Go.Proofs.YtjofhegodknmaaaGreat.W
open Go Go.RowKit
open V hiding At
section
variable {P : Program} {CR : Nat → List D → List D → Prop}
theorem prim_eq {tm : List U} {o : Oper} {f : Nat → D} (hf : ∀ t ∈ tmps o.op.operands.toList, tm[t]? = some (.dat (f t))) :
    opPure P (tmOf (tmps o.op.operands.toList) ((tmps o.op.operands.toList).map f)) ⟨none, o.op, o.type, "", #[], none⟩ = opPure P tm o := by
  have hev : ∀ x ∈ o.op.operands, evalU (tmOf (tmps o.op.operands.toList) ((tmps o.op.operands.toList).map f)) x = evalU tm x := by
    intro x hx
    cases x with
    | tmp t =>
      have ht : t ∈ tmps o.op.operands.toList := tmps_mem (by simpa using hx)
      simp only [evalU, tmOf]
      rw [putTm_at (fun s hs => by simpa using maxN_lt hs) ht, hf t ht]
    | _ => rfl
  have e2 : opPure P (tmOf (tmps o.op.operands.toList) ((tmps o.op.operands.toList).map f)) o = opPure P tm o := opPure_tmps hev
  rw [← e2]
  unfold opPure
  simp only [execOp_op]
theorem opPure_none {tm : List U} {o : Oper} {x : Operand} (hx : x ∈ o.op.operands.toList) (h : (evalU tm x).bind valU = none) : opPure P tm o = none := by
  unfold opPure
  rw [if_neg]
  intro hall
  have := List.all_eq_true.1 hall x hx
  rw [h] at this
  simp at this
theorem tmps_one {xs : List Operand} {s : Nat} (h : tmps xs = [s]) : Operand.tmp s ∈ xs := by
  induction xs with
  | nil => simp [tmps] at h
  | cons x r ih =>
    cases x with
    | tmp t =>
      simp only [tmps, List.cons.injEq] at h
      rw [h.1]
      simp
    | _ => simp only [tmps] at h; exact List.mem_cons_of_mem _ (ih h)
theorem nil_post {env : List D} {tm : List U} {o : Oper} {s : Nat} {sl neg : Bool} (ht : tmps o.op.operands.toList = [s]) {a x : At} (q : ∃ ds d, atsD env [a] = some ds ∧ popD P (.isNil sl neg o.op o.type [s]) ds = some d ∧ atD env x = some d) {d : D} (ha : atD env a = some d) (hs : tm[s]? = some (.dat d)) :
    ∃ r, atD env x = some r ∧ ((∃ l, sl = true ∧ d = .lst l ∧ r = .bool neg ∧ opPure P tm o = none) ∨ (∃ l, sl = false ∧ d = .fp l ∧ r = .bool neg ∧ opPure P tm o = none) ∨ opPure P tm o = some ⟨.dat r, [], []⟩) := by
  obtain ⟨r, h1, h2⟩ := pop1 q ha
  refine ⟨r, h2, ?_⟩
  have hmem := tmps_one ht
  simp only [popD] at h1
  split at h1
  · obtain rfl := Option.some.inj h1
    exact .inl ⟨_, rfl, rfl, rfl, opPure_none hmem (by simp only [evalU, hs]; rfl)⟩
  · obtain rfl := Option.some.inj h1
    exact .inr (.inl ⟨_, rfl, rfl, rfl, opPure_none hmem (by simp only [evalU, hs]; rfl)⟩)
  · have e := prim_eq (P := P) (tm := tm) (o := o) (f := fun _ => d) (fun t h => by rw [ht] at h; simp at h; rw [h]; exact hs)
    rw [ht] at e
    simp only [List.map_cons, List.map_nil] at e
    rw [e] at h1
    split at h1
    · rename_i d' rd up he
      split at h1
      · obtain rfl := Option.some.inj h1
        obtain ⟨rfl, rfl⟩ := opPure_quiet he
        exact .inr (.inr he)
      · simp at h1
    · simp at h1
theorem sEql_ok {S : SSt} {e : Em} {o : Oper} {t : TypeId} {neg : Bool} {x y : Operand} {u v : SU} {r : SR} (hops : o.op.operands.toList = [x, y]) (hu : evalS S.tm x = some u) (hv : evalS S.tm y = some v) (h : sEql P S e o t neg x y u v = some r) :
    OpSp P CR S e r (fun g id tm => match opPure P tm o with | some r => some r | none => (evalU tm x).bind fun u => (evalU tm y).bind (opEql P t neg u)) := by
  unfold sEql at h
  have const : ∀ {env : List D} {ι : Pl} {d : D} {y : U}, DU env ι (.at (.c d)) y → y = .dat d := by
    intro env ι d y hy
    cases hy with
    | «at» h => simp only [atD, Option.some.injEq] at h; rw [h]
  have isP : ∀ {tm : List U} {x' : U}, evalU tm x = some x' → valU x' = none → opPure P tm o = none := fun hx hv => opPure_none (x := x) (by rw [hops]; simp) (by rw [hx]; exact hv)
  split at h
  · -- a pointer to a variable
    rename_i pt o' p hpt
    obtain rfl := Option.some.inj h
    refine Sp.refl fun env _ τ ι tm g id H hd hH hid => ?_
    obtain ⟨x', hx, hxu⟩ := evalS_ok hd.tm hu
    obtain ⟨y', hy, hyu⟩ := evalS_ok hd.tm hv
    obtain rfl := const hyu
    cases hxu with
    | ptr hι =>
      refine ⟨⟨.dat (.bool (false != neg)), [], []⟩, ?_, OpPost.pure hd hH (.at (by cases neg <;> rfl)) Rd.nil⟩
      simp only [isP hx rfl, hx, hy, Option.bind_some, opEql, hpt]
  · rename_i pt a off sz hpt
    obtain rfl := Option.some.inj h
    refine Sp.refl fun env _ τ ι tm g id H hd hH hid => ?_
    obtain ⟨x', hx, hxu⟩ := evalS_ok hd.tm hu
    obtain ⟨y', hy, hyu⟩ := evalS_ok hd.tm hv
    obtain rfl := const hyu
    cases hxu with
    | fp ha hs =>
      refine ⟨⟨.dat (.bool (false != neg)), [], []⟩, ?_, OpPost.pure hd hH (.at (by cases neg <;> rfl)) Rd.nil⟩
      simp only [isP hx rfl, hx, hy, Option.bind_some, opEql, hpt]
  · rename_i pt o' i a p hpt
    obtain rfl := Option.some.inj h
    refine Sp.refl fun env _ τ ι tm g id H hd hH hid => ?_
    obtain ⟨x', hx, hxu⟩ := evalS_ok hd.tm hu
    obtain ⟨y', hy, hyu⟩ := evalS_ok hd.tm hv
    obtain rfl := const hyu
    cases hxu with
    | ep hι hi he hz =>
      refine ⟨⟨.dat (.bool (false != neg)), [], []⟩, ?_, OpPost.pure hd hH (.at (by cases neg <;> rfl)) Rd.nil⟩
      simp only [isP hx rfl, hx, hy, Option.bind_some, opEql, hpt]
  · rename_i pt a hpt
    split at h
    · rename_i s cv
      obtain ⟨q, hq, rfl⟩ := Option.map_eq_some_iff.1 h
      refine (fold_sp hq).mono fun env _ q1 τ ι tm g id H hd hH hid => ?_
      obtain ⟨x', hx, hxu⟩ := evalS_ok hd.tm hu
      obtain ⟨y', hy, hyu⟩ := evalS_ok hd.tm hv
      obtain rfl := const hyu
      cases hxu with
      | «at» ha =>
        rename_i d
        obtain ⟨r, h1, h2⟩ := nil_post (by rw [hops]; rfl) q1 ha hx
        rcases h2 with ⟨l, h0, _⟩ | ⟨l, _, rfl, rfl, h3⟩ | h3
        · simp at h0
        · refine ⟨⟨.dat (.bool (false != neg)), [], []⟩, ?_, OpPost.pure hd hH (.at (by cases neg <;> exact h1)) Rd.nil⟩
          simp only [h3, hx, hy, Option.bind_some, opEql, hpt]
        · exact ⟨_, by simp only [h3], OpPost.pure hd hH (.at h1) Rd.nil⟩
    · simp at h
  · rename_i kt et o' hpt
    obtain rfl := Option.some.inj h
    refine Sp.refl fun env _ τ ι tm g id H hd hH hid => ?_
    obtain ⟨x', hx, hxu⟩ := evalS_ok hd.tm hu
    obtain ⟨y', hy, hyu⟩ := evalS_ok hd.tm hv
    obtain rfl := const hyu
    cases hxu with
    | map hι =>
      refine ⟨⟨.dat (.bool (false != neg)), [], []⟩, ?_, OpPost.pure hd hH (.at (by cases neg <;> rfl)) Rd.nil⟩
      simp only [isP hx rfl, hx, hy, Option.bind_some, opEql, hpt]
  · rename_i el hpt
    split at h
    · rename_i s cv a S1 e1 rd n hl
      obtain ⟨q, hq, rfl⟩ := Option.map_eq_some_iff.1 h
      refine Sp.then (lstS_sp hl) (fold_sp hq) fun env q0 q1 τ ι tm g id H hd hH hid => ?_
      obtain ⟨x', hx, hxu⟩ := evalS_ok hd.tm hu
      obtain ⟨y', hy, hyu⟩ := evalS_ok hd.tm hv
      obtain rfl := const hyu
      obtain ⟨ι', hd', hfw, hH', hlv⟩ := q0 τ ι tm g H hd hH
      obtain ⟨d, ha, hlv⟩ := hlv x' hxu
      cases hlv with
      | dat =>
        obtain ⟨r, h1, h2⟩ := nil_post (by rw [hops]; rfl) q1 ha hx
        rcases h2 with ⟨l, _, rfl, rfl, h3⟩ | ⟨l, h0, _⟩ | h3
        · refine ⟨⟨.dat (.bool (false != neg)), [], []⟩, ?_, OpPost.pure hd' hH' (.at (by cases neg <;> exact h1)) Rd.nil⟩
          simp only [h3, hx, hy, Option.bind_some, opEql, hpt]
        · simp at h0
        · exact ⟨_, by simp only [h3], OpPost.pure hd' hH' (.at h1) Rd.nil⟩
      | own o' c l off ag ob hdl =>
        subst hdl
        obtain ⟨r, h1, h2⟩ := pop1 q1 ha
        simp only [popD, Option.some.injEq] at h1
        subst h1
        refine ⟨⟨.dat (.bool (false != neg)), [], []⟩, ?_, OpPost.pure hd' hH' (.at (by cases neg <;> exact h2)) Rd.nil⟩
        simp only [isP hx rfl, hx, hy, Option.bind_some, opEql, hpt]
    · simp at h
  · simp at h
theorem map_inv {τ : Tg} {env : List D} {ι : Pl} {S : SSt} {tm : List U} {g : Nat → Option V.Obj} (hd : Den τ env ι S tm g) {o : Nat} {ob : SObj} {a : At} (ho : getS S.st o = some ob) (hm : ob.mp = some a) (hz : ob.esz = 0) (hr : ob.row = none) {x : U} (hx : DU env ι (.map o) x) :
    ∃ c ob' l, x = .map c.co c.cg ∧ ι o = some (some c) ∧ c.l = [] ∧ g c.co = some ob' ∧ ob'.gen = c.cg ∧ ob'.esz = 0 ∧ atD env a = some (.lst l) ∧ ob'.cells = l.map .dat ∧ (ob'.snap = true → ob.snap = true) ∧ ob.cells = [] ∧ ∀ k, ob.tag = some k → τ k = some (c.co, c.cg, 0) := by
  cases hx with
  | map hι =>
    cases hd.ob o ob ho with
    | var c' ob' hr' hι' hl hg gen ty esz ag pos => omega
    | nil a' hr' => rw [hr'] at hr; simp at hr
    | row a' c' ob' us hr' => rw [hr'] at hr; simp at hr
    | map a' c' ob' l hr' hm' hι' hl hg gen esz sz snap ha cells hc tag =>
      rw [hι] at hι'
      obtain rfl := Option.some.inj (Option.some.inj hι')
      rw [hm] at hm'
      obtain rfl := Option.some.inj hm'
      exact ⟨_, ob', l, rfl, hι, hl, hg, gen, esz, ha, cells, snap, hc, tag⟩
theorem sLen_ok {S : SSt} {e : Em} {o : Oper} {c : Call} {t : TypeId} {x : Operand} {u : SU} {r : SR} (ho : o.op = .call c) (h1 : c.callee = .builtin .len) (h2 : c.args.toList = [x]) (h3 : c.argTypes.toList = [t]) (hu : evalS S.tm x = some u) (h : sLen P S e t u = some r) :
    OpSp P CR S e r (fun g id tm => match opPure P tm o with | some r => some r | none => (evalU tm x).bind (opLenG P g t)) := by
  have hops : o.op.operands.toList = [x] := by rw [ho]; simp [Op.operands, Call.operands, h1, h2]
  have isP : ∀ {tm : List U} {x' : U}, evalU tm x = some x' → valU x' = none → opPure P tm o = none := fun hx hv => opPure_none (x := x) (by rw [hops]; simp) (by rw [hx]; exact hv)
  unfold sLen at h
  split at h
  · rename_i kt et ht
    split at h
    · rename_i o'
      split at h
      · rename_i ob hob
        split at h
        · rename_i a ha
          split at h
          · rename_i hc
            simp only [Bool.and_eq_true, Option.isNone_iff_eq_none] at hc
            obtain ⟨q, hq, rfl⟩ := Option.map_eq_some_iff.1 h
            refine (fold_sp hq).mono fun env _ q1 τ ι tm g id H hd hH hid => ?_
            obtain ⟨x', hx, hxu⟩ := evalS_ok hd.tm hu
            obtain ⟨c', ob', l, rfl, k1, k2, k3, k4, k5, k6, k7, _⟩ := map_inv hd hob ha (Nat.eq_of_beq_eq_true hc.1) hc.2 hxu
            obtain ⟨w, hw, hx2⟩ := pop1 q1 k6
            simp only [popD, Option.some.injEq] at hw
            subst hw
            refine ⟨⟨.dat (.int .i64 (l.length / 2 : Nat)), [c'.co], []⟩, ?_, OpPost.pure hd hH (.at hx2) (Rd.cons k1 Rd.nil)⟩
            simp only [isP hx rfl, hx, Option.bind_some, opLenG, ht, k3, k4, k5, and_self, if_true, k7, List.length_map]
          · simp at h
        · simp at h
      · simp at h
    · simp at h
  · rename_i el ht
    split at h
    · rename_i a S1 e1 rd n hl
      obtain ⟨q, hq, rfl⟩ := Option.map_eq_some_iff.1 h
      refine Sp.then (lstS_sp hl) (fold_sp hq) fun env q0 q1 τ ι tm g id H hd hH hid => ?_
      obtain ⟨x', hx, hxu⟩ := evalS_ok hd.tm hu
      obtain ⟨ι', hd', hfw, hH', hlv⟩ := q0 τ ι tm g H hd hH
      obtain ⟨d, ha, hlv⟩ := hlv x' hxu
      obtain ⟨w, hw, hx2⟩ := pop1 q1 ha
      simp only [popD] at hw
      obtain ⟨l, hll, rfl⟩ := Option.map_eq_some_iff.1 hw
      cases hlv with
      | dat =>
        cases d <;> simp only [lstOf, reduceCtorEq, Option.some.injEq] at hll
        · subst hll
          exact ⟨⟨.dat (.int .i64 0), [], []⟩, by simp only [opPure_len_nil ho h1 h2 h3 hx ht], OpPost.pure hd' hH' (.at hx2) Rd.nil⟩
        · subst hll
          refine ⟨_, ?_, OpPost.pure hd' hH' (.at hx2) Rd.nil⟩
          simp only [isP hx rfl, hx, Option.bind_some, opLenG, opLen, ht]
      | own o' c' l' off ag ob hdl =>
        subst hdl
        simp only [lstOf, Option.some.injEq] at hll
        subst hll
        refine ⟨_, ?_, OpPost.pure hd' hH' (.at hx2) Rd.nil⟩
        simp only [isP hx rfl, hx, Option.bind_some, opLenG, opLen, ht]
    · simp at h
  · simp at h
theorem sMakeSlice_ok {S : SSt} {e : Em} {t : TypeId} {l c : SU} {r : SR} (h : sMakeSlice P S e t l c = some r) :
    Sp P CR e r.e fun env => ∀ τ ι tm g id H, Den τ env ι S tm g → HOk ι H → g id = none → ∀ x y, DU env ι l x → DU env ι c y → ∃ res, opMakeSlice P id t x y = some res ∧ OpPost τ env r.S r.u r.rd r.up tm g id H res := by
  unfold sMakeSlice at h
  split at h
  · rename_i el n m ht
    split at h
    · rename_i i a z hi ha hz
      split at h
      · rename_i hc
        simp only [Bool.and_eq_true, Bool.or_eq_true] at hc
        obtain ⟨⟨⟨⟨c0, c1⟩, c2⟩, c3⟩, c4⟩ := hc
        obtain rfl := beqA_eq c0
        have c1 := Nat.le_of_ble_eq_true c1
        have c2 := Nat.le_of_ble_eq_true c2
        have c3 := Nat.eq_of_beq_eq_true c3
        have c4 : a = true ∨ i.size = 1 := by
          rcases c4 with c4 | c4
          · exact .inl c4
          · exact .inr (Nat.eq_of_beq_eq_true c4)
        obtain ⟨q, hq, rfl⟩ := Option.map_eq_some_iff.1 h
        refine (fold_sp hq).mono fun env _ q1 τ ι tm g id H hd hH hid x y hx hy => ?_
        cases hx with
        | «at» hn =>
          cases hy with
          | «at» hm =>
            rename_i d d'
            rw [hn] at hm
            obtain rfl := Option.some.inj hm
            obtain ⟨w, h1, h2⟩ := pop1 q1 hn
            cases d <;> simp only [popD, reduceCtorEq] at h1
            rename_i k z0
            cases k <;> simp only [popD, reduceCtorEq] at h1
            split at h1
            · rename_i hb
              obtain rfl := Option.some.inj h1
              have hone := zeroT_one hz
              generalize hel : (if a = true then D.agg z else z.headD .nil) = el' at h2
              have helc : el'.cells = z ∧ rowOk i.size a el' = true := by
                cases hag : a with
                | true =>
                  rw [hag] at hel
                  simp only [if_true] at hel
                  subst hel
                  refine ⟨rfl, ?_⟩
                  simp only [rowOk, Bool.true_and, Bool.and_eq_true]
                  exact ⟨by rw [c3]; exact Nat.beq_refl _, List.all_eq_true.2 hone⟩
                | false =>
                  rw [hag] at hel c4
                  simp only [Bool.false_eq_true, if_false, false_or] at hel c4
                  rw [c4] at c3
                  obtain ⟨q0, rfl⟩ := List.length_eq_one_iff.1 c3
                  simp only [List.headD_cons] at hel
                  subst hel
                  have := hone q0 (by simp)
                  refine ⟨V.D.cells_one this, ?_⟩
                  rw [c4]
                  cases q0 <;> first | rfl | simp [D.one] at this
              have hrep : ∀ k : Nat, ((List.replicate k el').flatMap D.cells).map U.dat = repeatD z k := by
                intro k
                induction k with
                | zero => rfl
                | succ k ih => rw [List.replicate_succ, List.flatMap_cons, List.map_append, ih, helc.1]; rfl
              have hbig : z0 * (i.bytes : Int) ≤ 140737488355328 := by
                have e1 : (z0.toNat : Int) = z0 := Int.toNat_of_nonneg hb.1
                have e2 : ((z0.toNat * i.bytes : Nat) : Int) = z0 * (i.bytes : Int) := by rw [Int.natCast_mul, e1]
                have e3 := hb.2
                rw [← e2]
                generalize z0.toNat * i.bytes = w at e3 ⊢
                omega
              refine ⟨⟨.own id 0 0 z0.toNat, [], [(id, ⟨el, i.size, a, 0, false, repeatD z z0.toNat⟩)]⟩, ?_, ?_⟩
              · simp only [opMakeSlice, ht, hi, ha, hz]
                rw [if_pos ⟨hb.1, Int.le_refl _, hbig, c1, c2, c3⟩]
              · refine new_post hd hH hid (c := ⟨id, 0, List.replicate z0.toNat el', 0⟩) rfl (fun ι' h6 hf => ?_) (fun ι' h6 hf => ?_) Rd.nil (List.mem_singleton.2 rfl)
                · exact .row q.1 _ ⟨el, i.size, a, 0, false, repeatD z z0.toNat⟩ [] rfl h6 (by rw [updF_one, if_pos rfl]) rfl rfl rfl rfl c1 c4 (fun h => by cases h) (.inl h2) (fun d hd => by rw [List.eq_of_mem_replicate hd]; exact helc.2) (by rw [List.append_nil, hrep]) DUs.nil (fun u hu => by cases hu) (by rw [Nat.zero_mul]; rfl) (fun k hk => by cases hk)
                · have e0 : z0.toNat = (List.replicate z0.toNat el').length + 0 := by rw [List.length_replicate]; rfl
                  have := DU.own (env := env) h6
                  simp only [← e0] at this
                  exact this
            · simp at h1
      · simp at h
    · simp at h
  · simp at h
theorem conv_prim {tm : List U} {o : Oper} {s : Nat} {d : D} (hops : o.op.operands.toList = [.tmp s]) (hs : tm[s]? = some (.dat d)) : opPure P (tmOf [s] [d]) ⟨none, o.op, o.type, "", #[], none⟩ = opPure P tm o := by
  have ht : tmps o.op.operands.toList = [s] := by rw [hops]; rfl
  have e := prim_eq (P := P) (tm := tm) (o := o) (f := fun _ => d) (fun t h => by rw [ht] at h; simp at h; rw [h]; exact hs)
  rw [ht] at e
  exact e
theorem bytes_cells {l : List D} {b : List UInt8} (h : bytesOfD l = some b) : ∀ d ∈ l, d.cells = [d] := by
  induction l generalizing b with
  | nil => simp
  | cons a r ih =>
    unfold bytesOfD at h
    split at h
    · rename_i e; simp at e
    · rename_i n q e
      simp only [List.cons.injEq] at e
      obtain ⟨rfl, rfl⟩ := e
      obtain ⟨q', hq, _⟩ := Option.map_eq_some_iff.1 h
      intro d hd
      rcases List.mem_cons.1 hd with rfl | hd
      · rfl
      · exact ih hq d hd
    · simp at h
theorem flat_self {l : List D} (h : ∀ d ∈ l, d.cells = [d]) : l.flatMap D.cells = l := by
  induction l with
  | nil => rfl
  | cons a r ih => rw [List.flatMap_cons, h a (by simp), ih fun d hd => h d (by simp [hd])]; rfl
theorem sConvert_ok {S : SSt} {e : Em} {o : Oper} {src dst : TypeId} {x : Operand} {u : SU} {r : SR} (hops : o.op.operands.toList = [x]) (hu : evalS S.tm x = some u) (h : sConvert P S e o src dst x u = some r) :
    OpSp P CR S e r (fun g id tm => match opPure P tm o with | some r => some r | none => (evalU tm x).bind (opConvert P g src dst)) := by
  unfold sConvert at h
  split at h
  · rename_i s
    have isP : ∀ {tm : List U} {x' : U}, evalU tm (.tmp s) = some x' → valU x' = none → opPure P tm o = none := fun hx hv => opPure_none (x := .tmp s) (by rw [hops]; simp) (by rw [hx]; exact hv)
    split at h
    · rename_i el hsrc hdst
      split at h
      · rename_i a hel
        obtain ⟨q, hq, rfl⟩ := Option.map_eq_some_iff.1 h
        refine (fold_sp hq).mono fun env _ q1 τ ι tm g id H hd hH hid => ?_
        obtain ⟨x', hx, hxu⟩ := evalS_ok hd.tm hu
        cases hxu with
        | «at» ha =>
          rename_i d
          obtain ⟨w, h1, h2⟩ := pop1 q1 ha
          simp only [popD] at h1
          rw [conv_prim hops hx] at h1
          split at h1
          · rename_i d' rd up he
            split at h1
            · obtain rfl := Option.some.inj h1
              obtain ⟨rfl, rfl⟩ := opPure_quiet he
              exact ⟨_, by simp only [he], OpPost.pure hd hH (.at h2) Rd.nil⟩
            · simp at h1
          · simp at h1
          · rename_i he
            split at h1
            · rename_i st
              obtain rfl := Option.some.inj h1
              refine ⟨⟨.dat (.lst (bytesD st)), [], []⟩, ?_, OpPost.pure hd hH (.at h2) Rd.nil⟩
              simp only [he, hx, Option.bind_some, opConvert, hsrc, hdst, hel]
              rfl
            · simp at h1
      · simp at h
    · rename_i el hsrc hdst
      split at h
      · rename_i hel
        split at h
        · rename_i a S1 e1 rd n hl
          split at h
          · rename_i hn
            simp only [Bool.or_eq_true] at hn
            obtain ⟨q, hq, rfl⟩ := Option.map_eq_some_iff.1 h
            refine Sp.then (lstS_sp hl) (fold_sp hq) fun env q0 q1 τ ι tm g id H hd hH hid => ?_
            obtain ⟨x', hx, hxu⟩ := evalS_ok hd.tm hu
            obtain ⟨ι', hd', hfw, hH', hlv⟩ := q0 τ ι tm g H hd hH
            obtain ⟨d, ha, hlv⟩ := hlv x' hxu
            obtain ⟨w, h1, h2⟩ := pop1 q1 ha
            simp only [popD] at h1
            cases hlv with
            | dat =>
              rw [conv_prim hops hx] at h1
              split at h1
              · rename_i d' rd' up he
                split at h1
                · obtain rfl := Option.some.inj h1
                  obtain ⟨rfl, rfl⟩ := opPure_quiet he
                  exact ⟨_, by simp only [he], OpPost.pure hd' hH' (.at h2) Rd.nil⟩
                · simp at h1
              · simp at h1
              · rename_i he
                simp only [Option.bind_eq_some_iff, Option.map_eq_some_iff] at h1
                obtain ⟨l, hl1, b, hb, rfl⟩ := h1
                refine ⟨⟨.dat (.str ⟨b.toArray⟩), [], []⟩, ?_, OpPost.pure hd' hH' (.at h2) Rd.nil⟩
                cases d <;> simp only [lstOf, reduceCtorEq, Option.some.injEq] at hl1
                · subst hl1
                  simp only [bytesOfD, Option.some.injEq] at hb
                  subst hb
                  simp only [he, hx, Option.bind_some, opConvert, hsrc, hdst, hel]
                  rfl
                · subst hl1
                  simp only [he, hx, Option.bind_some, opConvert, hsrc, hdst, hel, hb, Option.map_some]
            | own o' c l off ag ob hdl ho hι hg gen he' ha' pos rows hle hc =>
              subst hdl
              have hp : opPure P (tmOf [s] [.lst l]) ⟨none, o.op, o.type, "", #[], none⟩ = none := opPure_none (x := .tmp s) (by simp only [hops]; simp) (by
                simp only [evalU, tmOf]
                rw [show ([s] : List Nat) = [s] from rfl]
                have := putTm_at (f := fun _ => D.lst l) (ts := [s]) (l := List.replicate (maxN [s]) .undef) (t := s) (fun q hq => by simpa using maxN_lt hq) (by simp)
                simp only [List.map_cons, List.map_nil] at this
                rw [this]
                rfl)
              rw [hp] at h1
              simp only [lstOf, Option.bind_some, Option.map_eq_some_iff] at h1
              obtain ⟨b, hb, rfl⟩ := h1
              have hn1 : n = 1 := by
                rcases hn with hn | hn
                · have := Nat.eq_of_beq_eq_true hn; omega
                · exact Nat.eq_of_beq_eq_true hn
              subst hn1
              rw [flat_self (bytes_cells hb)] at hc
              simp only [Nat.mul_one] at hc hle
              refine ⟨⟨.dat (.str ⟨b.toArray⟩), [c.co], []⟩, ?_, OpPost.pure hd' hH' (.at h2) fun y hy => by simp only [List.mem_singleton] at hy; subst hy; exact ⟨o', c, ho, hι, rfl⟩⟩
              simp only [isP hx rfl, hx, Option.bind_some, opConvert, hsrc, hdst, hel, hg]
              rw [if_pos ⟨gen, he', hle⟩, hc, asDats, Option.bind_some, hb]
              rfl
          · simp at h
        · simp at h
      · simp at h
    · simp at h
  · simp at h
end
end Go.Proofs.YtjofhegodknmaaaGreat.W
namespace Go.Proofs.YtjofhegodknmaaaGreat.W
open Go Go.RowKit
open V hiding At
section
variable {P : Program} {CR : Nat → List D → List D → Prop}
theorem look_eq {g : Nat → Option V.Obj} {t : TypeId} {o gn : Nat} {ob : V.Obj} {l : List D} {k : D} (hg : g o = some ob) (h1 : ob.gen = gn) (h2 : ob.esz = 0) (h3 : ob.cells = l.map .dat) (ok : Bool) :
    opLookup P g t ok (.map o gn) (.dat k) = (opLookup P (fakeM t l) t ok (.map 0 0) (.dat k)).map fun r => ⟨r.u, [o], []⟩ := by
  obtain ⟨ty, esz, ag, gen, snap, cells⟩ := ob
  simp only at h1 h2 h3
  subst h1 h2 h3
  unfold opLookup
  cases P.underlying t with
  | none => rfl
  | some d =>
    cases d with
    | map kt et =>
      cases valU (.dat k) with
      | none => rfl
      | some kv =>
        simp only [hg, fakeM, true_and]
        by_cases hc : keyOk P kt kv (l.map U.dat).isEmpty = true
        · simp only [hc, if_true]
          cases findU P kt kv (l.map U.dat) with
          | none => rfl
          | some i =>
            cases i with
            | none => cases zeroD P et <;> rfl
            | some i => simp only; cases (l.map U.dat)[2 * i + 1]? <;> rfl
        · simp only [hc, if_false]; rfl
    | _ => rfl
theorem look_two {t : TypeId} {l : List D} {k d : D} {x : List Nat} {y : List (Nat × V.Obj)} (h : opLookup P (fakeM t l) t false (.map 0 0) (.dat k) = some ⟨.dat d, x, y⟩) {z : U} {b : Bool} {x' : List Nat} {y' : List (Nat × V.Obj)} (h' : opLookup P (fakeM t l) t true (.map 0 0) (.dat k) = some ⟨.tup [z, .dat (.bool b)], x', y'⟩) : z = .dat d := by
  unfold opLookup at h h'
  simp only [fakeM, true_and] at h h'
  cases hu : P.underlying t with
  | none => simp [hu] at h
  | some ty =>
    rw [hu] at h h'
    cases ty with
    | map kt et =>
      cases hk : valU (.dat k) with
      | none => simp [hk] at h
      | some kv =>
        rw [hk] at h h'
        simp only at h h'
        split at h
        · rename_i hc
          rw [if_pos hc] at h'
          cases hf : findU P kt kv (l.map .dat) with
          | none => simp [hf] at h
          | some i =>
            rw [hf] at h h'
            cases i with
            | none =>
              simp only at h h'
              obtain ⟨w, hw, he⟩ := Option.map_eq_some_iff.1 h
              obtain ⟨w', hw', he'⟩ := Option.map_eq_some_iff.1 h'
              rw [hw] at hw'
              obtain rfl := Option.some.inj hw'
              simp at he he'
              rw [← he'.1.1, he.1]
            | some i =>
              simp only at h h'
              obtain ⟨w, hw, he⟩ := Option.map_eq_some_iff.1 h
              obtain ⟨w', hw', he'⟩ := Option.map_eq_some_iff.1 h'
              rw [hw] at hw'
              obtain rfl := Option.some.inj hw'
              simp at he he'
              rw [← he'.1.1, he.1]
        · simp at h
    | _ => simp at h
theorem put_eq {g : Nat → Option V.Obj} {t : TypeId} {o gn : Nat} {ob : V.Obj} {l : List D} {k x : D} (hg : g o = some ob) (h1 : ob.gen = gn) (h2 : ob.esz = 0) (h3 : ob.cells = l.map .dat) {u : U} {rd : List Nat} {p : Nat} {ob1 : V.Obj} {l1 : List D}
    (h : opMapUpdate P (fakeM t l) t (.map 0 0) (.dat k) (.dat x) = some ⟨u, rd, [(p, ob1)]⟩) (hl : ob1.cells = l1.map .dat) : opMapUpdate P g t (.map o gn) (.dat k) (.dat x) = some ⟨.undef, [o], [(o, { ob with cells := l1.map .dat })]⟩ := by
  obtain ⟨ty, esz, ag, gen, snap, cells⟩ := ob
  simp only at h1 h2 h3
  subst h1 h2 h3
  unfold opMapUpdate at h ⊢
  cases hu : P.underlying t with
  | none => simp [hu] at h
  | some ty' =>
    rw [hu] at h
    cases ty' with
    | map kt et =>
      cases hk : valU (.dat k) with
      | none => simp [hk] at h
      | some kv =>
        rw [hk] at h
        simp only [fakeM, true_and] at h
        simp only [hg, true_and]
        split at h
        · rename_i hc
          rw [if_pos hc]
          cases hf : findU P kt kv (l.map .dat) with
          | none => simp [hf] at h
          | some i =>
            rw [hf] at h
            cases i with
            | none =>
              simp only [Option.some.injEq, Res.mk.injEq, List.cons.injEq, Prod.mk.injEq, and_true] at h
              obtain ⟨_, _, _, rfl⟩ := h
              simp only at hl
              simp only [hl]
            | some i =>
              simp only at h ⊢
              cases hb : ((l.map U.dat)[2 * i]?).bind valU with
              | none => rw [hb] at h; simp at h
              | some old =>
                rw [hb] at h
                simp only at h ⊢
                split at h
                · rename_i hs
                  rw [if_pos hs]
                  simp only [Option.some.injEq, Res.mk.injEq, List.cons.injEq, Prod.mk.injEq, and_true] at h
                  obtain ⟨_, _, _, rfl⟩ := h
                  simp only at hl
                  simp only [hl]
                · simp at h
        · simp at h
    | _ => simp at h
theorem plainA_sp {st : List (Nat × SObj)} {u : SU} {e e' : Em} {a : At} (h : plainA P st u e = some (a, e')) : Sp P CR e e' fun env => ∀ ι y, DU env ι u y → ∃ d, y = .dat d ∧ atD env a = some d := by
  unfold plainA at h
  split at h
  · simp only [Option.some.injEq, Prod.mk.injEq] at h
    obtain ⟨rfl, rfl⟩ := h
    refine Sp.refl fun env _ ι y hy => ?_
    cases hy with
    | «at» ha => exact ⟨_, rfl, ha⟩
  · rename_i cs
    obtain ⟨as, has, h⟩ := Option.bind_eq_some_iff.1 h
    refine (aggr_sp h).mono fun env _ q ι y hy => ?_
    obtain ⟨ds, h1, h2, h3⟩ := q
    cases hy with
    | agg hl hh ho =>
      rename_i us
      obtain ⟨ds', rfl, h4⟩ := atoms_ok has ⟨hl, hh⟩
      rw [h1] at h4
      obtain rfl := Option.some.inj h4
      exact ⟨.agg ds, by rw [mkAgg_dats], h3⟩
  · simp at h
theorem pop2 {env : List D} {o : POp} {a b x : At} (q : ∃ ds d, atsD env [a, b] = some ds ∧ popD P o ds = some d ∧ atD env x = some d) {da db : D} (ha : atD env a = some da) (hb : atD env b = some db) : ∃ d, popD P o [da, db] = some d ∧ atD env x = some d := by
  obtain ⟨ds, d, h1, h2, h3⟩ := q
  have : atsD env [a, b] = some [da, db] := atsD_mk ha (atsD_mk hb rfl)
  rw [this] at h1
  obtain rfl := Option.some.inj h1
  exact ⟨d, h2, h3⟩
theorem mapS_inv {S : SSt} {u : SU} {o : Nat} {ob : SObj} {a : At} (h : mapS S u = some (o, ob, a)) : u = .map o ∧ getS S.st o = some ob ∧ ob.mp = some a ∧ ob.esz = 0 ∧ ob.row = none := by
  unfold mapS at h
  split at h
  · split at h
    · rename_i ob' hob
      split at h
      · rename_i a' ha
        split at h
        · rename_i hc
          simp only [Bool.and_eq_true, Option.isNone_iff_eq_none] at hc
          simp only [Option.some.injEq, Prod.mk.injEq] at h
          obtain ⟨rfl, rfl, rfl⟩ := h
          exact ⟨rfl, hob, ha, Nat.eq_of_beq_eq_true hc.1, hc.2⟩
        · simp at h
      · simp at h
    · simp at h
  · simp at h
theorem sMakeMap_ok {S : SSt} {e : Em} {t : TypeId} {r : SR} (h : sMakeMap S e t = some r) : OpSp P CR S e r (fun g id tm => opMakeMap id t) := by
  simp only [sMakeMap, Option.some.injEq] at h
  subst h
  refine Sp.refl fun env _ τ ι tm g id H hd hH hid => ⟨_, rfl, ?_⟩
  exact new_post (c := ⟨id, 0, [], 0⟩) hd hH hid rfl (fun ι' hι' _ => .map (.c (.lst [])) ⟨id, 0, [], 0⟩ ⟨t, 0, false, 0, false, []⟩ [] rfl rfl hι' rfl (by simp [updF_one]) rfl rfl rfl (by simp) rfl rfl rfl (by simp)) (fun ι' hι' _ => .map (c := ⟨id, 0, [], 0⟩) hι') Rd.nil (by simp)
theorem sLookup_ok {S : SSt} {e : Em} {t : TypeId} {ok : Bool} {u i : SU} {r : SR} (h : sLookup P S e t ok u i = some r) :
    Sp P CR e r.e fun env => ∀ τ ι tm g id H, Den τ env ι S tm g → HOk ι H → g id = none → ∀ x y, DU env ι u x → DU env ι i y → valU x = none ∧ ∃ res, opLookup P g t ok x y = some res ∧ OpPost τ env r.S r.u r.rd r.up tm g id H res := by
  unfold sLookup at h
  split at h
  · rename_i o ob a k e1 hm hk
    obtain ⟨rfl, ho, hmp, hz, hr⟩ := mapS_inv hm
    split at h
    · rename_i x e2 hx
      cases ok with
      | true =>
        simp only [if_true] at h
        obtain ⟨w, hw, rfl⟩ := Option.map_eq_some_iff.1 h
        refine Sp.then (plainA_sp hk) (Sp.then (fold_sp hx) (fold_sp hw) fun env a b => And.intro a b) fun env q0 q1 τ ι tm g id H hd hH hid xv yv hxv hyv => ?_
        obtain ⟨kd, rfl, hkd⟩ := q0 ι yv hyv
        obtain ⟨c, ob', l, rfl, k1, k2, k3, k4, k5, k6, k7, _⟩ := map_inv hd ho hmp hz hr hxv
        obtain ⟨d, p1, p2⟩ := pop2 q1.1 k6 hkd
        obtain ⟨b, p3, p4⟩ := pop2 q1.2 k6 hkd
        simp only [popD] at p1 p3
        split at p1
        · rename_i d' x1 y1 hlk
          split at p1
          · obtain rfl := Option.some.inj p1
            split at p3
            · rename_i z b' x2 y2 hlk2
              obtain rfl := Option.some.inj p3
              obtain rfl := look_two hlk hlk2
              refine ⟨rfl, ⟨.tup [.dat d', .dat (.bool b')], [c.co], []⟩, by rw [look_eq k3 k4 k5 k7, hlk2]; rfl, OpPost.pure hd hH (DU.tup rfl fun j cc uu hc hu => ?_) (Rd.cons k1 Rd.nil)⟩
              exact (DUs.cons (.at p2) (DUs.cons (.at p4) DUs.nil)).2 j cc uu hc hu
            · simp at p3
          · simp at p1
        · simp at p1
      | false =>
        simp only [Bool.false_eq_true, if_false, Option.some.injEq] at h
        subst h
        refine Sp.then (plainA_sp hk) (fold_sp hx) fun env q0 q1 τ ι tm g id H hd hH hid xv yv hxv hyv => ?_
        obtain ⟨kd, rfl, hkd⟩ := q0 ι yv hyv
        obtain ⟨c, ob', l, rfl, k1, k2, k3, k4, k5, k6, k7, _⟩ := map_inv hd ho hmp hz hr hxv
        obtain ⟨d, p1, p2⟩ := pop2 q1 k6 hkd
        simp only [popD] at p1
        split at p1
        · rename_i d' x1 y1 hlk
          split at p1
          · obtain rfl := Option.some.inj p1
            exact ⟨rfl, ⟨.dat d', [c.co], []⟩, by rw [look_eq k3 k4 k5 k7, hlk]; rfl, OpPost.pure hd hH (.at p2) (Rd.cons k1 Rd.nil)⟩
          · simp at p1
        · simp at p1
    · simp at h
  · simp at h
theorem sMapPut_ok {S : SSt} {e : Em} {t : TypeId} {u i x : SU} {r : SR} (h : sMapPut P S e t u i x = some r) :
    Sp P CR e r.e fun env => ∀ τ ι tm g id H, Den τ env ι S tm g → HOk ι H → g id = none → ∀ a b c, DU env ι u a → DU env ι i b → DU env ι x c → ∃ res, opMapUpdate P g t a b c = some res ∧ OpPost τ env r.S r.u r.rd r.up tm g id H res := by
  unfold sMapPut at h
  split at h
  · rename_i o ob a k e1 hm hk
    obtain ⟨rfl, ho, hmp, hz, hr⟩ := mapS_inv hm
    split at h
    · simp at h
    · rename_i hsn
      split at h
      · rename_i d e2 hd0
        obtain ⟨w, hw, rfl⟩ := Option.map_eq_some_iff.1 h
        refine Sp.then (plainA_sp hk) (Sp.then (plainA_sp hd0) (fold_sp hw) fun env a b => And.intro a b) fun env q0 q1 τ ι tm g id H hd hH hid av bv cv hav hbv hcv => ?_
        obtain ⟨kd, rfl, hkd⟩ := q0 ι bv hbv
        obtain ⟨xd, rfl, hxd⟩ := q1.1 ι cv hcv
        obtain ⟨c, ob', l, rfl, k1, k2, k3, k4, k5, k6, k7, k8, k9, k10⟩ := map_inv hd ho hmp hz hr hav
        obtain ⟨ds, dd, p1, p2, p3⟩ := q1.2
        have : atsD env [a, k, d] = some [.lst l, kd, xd] := atsD_mk k6 (atsD_mk hkd (atsD_mk hxd rfl))
        rw [this] at p1
        obtain rfl := Option.some.inj p1
        simp only [popD] at p2
        split at p2
        · rename_i u1 rd1 p0 ob1 hup
          obtain ⟨l1, hl1, rfl⟩ := Option.map_eq_some_iff.1 p2
          refine ⟨_, put_eq k3 k4 k5 k7 hup (asDat_all hl1), ι, H, ?_, .undef, fun _ _ => rfl, hH, rd_ok hH hd (Rd.cons k1 Rd.nil), up_one hH k1 k3 (by simp)⟩
          exact set_den hd ho k1 (.map w.1 c { ob' with cells := l1.map .dat } l1 hr rfl k1 k2 (by simp [updF_one]) k4 k5 hz k8 p3 rfl k9 k10)
        · simp at p2
      · simp at h
  · simp at h
theorem rep_flat {z : List D} {el : D} (h : el.cells = z) : ∀ k : Nat, ((List.replicate k el).flatMap D.cells).map U.dat = repeatD z k
  | 0 => rfl
  | k + 1 => by rw [List.replicate_succ, List.flatMap_cons, List.map_append, rep_flat h k, h]; rfl
theorem splice_clr {esz : Nat} {ag : Bool} {l : List D} {z : List D} {el : D} {off n : Nat} (rows : ∀ d ∈ l, rowOk esz ag d = true) (hn : off + n ≤ l.length) (hz : z.length = esz) (hel : el.cells = z) :
    ((l.take off ++ List.replicate n el ++ l.drop (off + n)).flatMap D.cells).map U.dat = splice ((l.flatMap D.cells).map U.dat) (off * esz) (repeatD z n) := by
  have h1 : ((l.take off).flatMap D.cells).length = off * esz := by
    rw [flat_len fun d hd => rows d (List.mem_of_mem_take hd), List.length_take, Nat.min_eq_left (by omega)]
  have h2 : ((l.take (off + n)).flatMap D.cells).length = (off + n) * esz := by
    rw [flat_len fun d hd => rows d (List.mem_of_mem_take hd), List.length_take, Nat.min_eq_left (by omega)]
  have e1 : l.flatMap D.cells = (l.take off).flatMap D.cells ++ (l.drop off).flatMap D.cells := by
    conv => lhs; rw [← List.take_append_drop off l]
    rw [List.flatMap_append]
  have e2 : l.flatMap D.cells = (l.take (off + n)).flatMap D.cells ++ (l.drop (off + n)).flatMap D.cells := by
    conv => lhs; rw [← List.take_append_drop (off + n) l]
    rw [List.flatMap_append]
  have t1 : ((l.flatMap D.cells).map U.dat).take (off * esz) = ((l.take off).flatMap D.cells).map U.dat := by
    rw [e1, List.map_append, List.take_left' (by rw [List.length_map, h1])]
  have t2 : ((l.flatMap D.cells).map U.dat).drop (off * esz + (repeatD z n).length) = ((l.drop (off + n)).flatMap D.cells).map U.dat := by
    have : off * esz + (repeatD z n).length = (off + n) * esz := by rw [repeat_len, hz, Nat.add_mul]
    rw [this, e2, List.map_append, List.drop_left' (by rw [List.length_map, h2])]
  simp only [splice, t1, t2, List.flatMap_append, List.map_append, rep_flat hel]
theorem sClear_ok {S : SSt} {e : Em} {t : TypeId} {u : SU} {r : SR} (h : sClear P S e t u = some r) :
    Sp P CR e r.e fun env => ∀ τ ι tm g id H, Den τ env ι S tm g → HOk ι H → g id = none → ∀ x, DU env ι u x → ∃ res, opClear P g t x = some res ∧ OpPost τ env r.S r.u r.rd r.up tm g id H res := by
  unfold sClear at h
  split at h
  · rename_i el o i1 i2 ht
    split at h
    · rename_i ob sz z ho hsz hz
      split at h
      · rename_i a hrow hcn
        split at h
        · rename_i hc
          simp only [Bool.and_eq_true, Bool.not_eq_true'] at hc
          obtain ⟨⟨⟨hc1, hc2⟩, hc3⟩, hc4⟩ := hc
          have hsz2 := Nat.eq_of_beq_eq_true hc1
          have hsz3 := Nat.le_of_ble_eq_true hc2
          have hzl := Nat.eq_of_beq_eq_true hc4
          split at h
          · rename_i x0 e1 hs
            obtain ⟨w, hw, rfl⟩ := Option.map_eq_some_iff.1 h
            refine Sp.then (fold_sp hs) (fold_sp hw) fun env q1 q2 τ ι tm g id H hd hH hid x hx => ?_
            obtain ⟨ds, dd, f1, f2, f3⟩ := q2
            cases hx with
            | subN hι h1 h2 =>
              rcases (hd.ob o ob ho).plain hrow hcn with ⟨_, ha⟩ | ⟨c, _, hι2, _⟩
              · have : atsD env [a, i1, i2] = some [.nil, .int _ 0, .int _ 0] := atsD_mk ha (atsD_mk h1 (atsD_mk h2 rfl))
                rw [this] at f1
                obtain rfl := Option.some.inj f1
                simp [popD] at f2
              · rw [hι] at hι2; simp at hι2
            | sub hι hn h1 h2 =>
              rename_i off n c ki kj
              have hdo := hd.ob o ob ho
              rcases hdo.plain hrow hcn with ⟨hι2, _⟩ | ⟨c', ob', hι2, hk, ha, hg, gen, ty, esz, ag, pos, rows, cells⟩
              · rw [hι] at hι2; simp at hι2
              · rw [hι] at hι2
                obtain rfl := Option.some.inj (Option.some.inj hι2)
                have : atsD env [a, i1, i2] = some [.lst c.l, .int ki (off : Nat), .int kj ((off + n : Nat) : Int)] := atsD_mk ha (atsD_mk h1 (atsD_mk h2 rfl))
                rw [this] at f1
                obtain rfl := Option.some.inj f1
                simp only [popD] at f2
                generalize hel : (if ob.ag = true then D.agg z else z.headD .nil) = elz at f2
                split at f2
                · rename_i hcond
                  obtain rfl := Option.some.inj f2
                  obtain ⟨_, _, _, hrow2⟩ := hcond
                  simp only [Int.toNat_natCast] at f3
                  have hnn : off + n - off = n := by omega
                  rw [hnn] at f3
                  have helc : elz.cells = z := by
                    cases hag : ob.ag with
                    | true => rw [hag] at hel; simp only [if_true] at hel; subst hel; rfl
                    | false =>
                      rw [hag] at hel hrow2
                      simp only [Bool.false_eq_true, if_false] at hel
                      have h11 : sz = 1 := by
                        cases elz <;> simp [rowOk] at hrow2 <;> first | exact Nat.eq_of_beq_eq_true hrow2 | exact hrow2
                      rw [h11] at hzl
                      obtain ⟨q0, rfl⟩ := List.length_eq_one_iff.1 hzl
                      simp only [List.headD_cons] at hel
                      subst hel
                      cases q0 <;> first | rfl | (simp [rowOk] at hrow2)
                  have hsnap : ob'.snap = false := by
                    cases hdo with
                    | var c9 ob9 hr9 => rw [hrow] at hr9; simp at hr9
                    | nil a9 hr9 hι9 => rw [hι] at hι9; simp at hι9
                    | map a9 c9 ob9 l9 hr9 => rw [hrow] at hr9; simp at hr9
                    | row a9 c9 ob9 us9 hr9 hι9 hg9 gen9 ty9 esz9 ag9 pos9 agOk9 snap9 =>
                      rw [hι] at hι9
                      obtain rfl := Option.some.inj (Option.some.inj hι9)
                      rw [hg] at hg9
                      obtain rfl := Option.some.inj hg9
                      cases e : ob'.snap with
                      | false => rfl
                      | true => rw [snap9 e] at hc3; simp at hc3
                  have agOk : ob.ag = true ∨ ob.esz = 1 := by
                    cases hdo with
                    | var c9 ob9 hr9 => rw [hrow] at hr9; simp at hr9
                    | nil a9 hr9 hι9 => rw [hι] at hι9; simp at hι9
                    | map a9 c9 ob9 l9 hr9 => rw [hrow] at hr9; simp at hr9
                    | row a9 c9 ob9 us9 hr9 hι9 hg9 gen9 ty9 esz9 ag9 pos9 agOk9 => exact agOk9
                  have tag : ∀ k, ob.tag = some k → τ k = some (c.co, c.cg, c.l.length + c.k) := by
                    cases hdo with
                    | var c9 ob9 hr9 => rw [hrow] at hr9; simp at hr9
                    | nil a9 hr9 hι9 => rw [hι] at hι9; simp at hι9
                    | map a9 c9 ob9 l9 hr9 => rw [hrow] at hr9; simp at hr9
                    | row a9 c9 ob9 us9 hr9 hι9 hg9 gen9 ty9 esz9 ag9 pos9 agOk9 snap9 front9 rows9 cells9 beh9 one9 len9 tag9 =>
                      rw [hι] at hι9
                      obtain rfl := Option.some.inj (Option.some.inj hι9)
                      exact tag9
                  have hcl : (off + n) * sz ≤ ob'.cells.length := by
                    rw [cells, List.length_map, flat_len rows, hsz2]
                    exact Nat.mul_le_mul_right _ hn
                  have hlen' : (c.l.take off ++ List.replicate n elz ++ c.l.drop (off + n)).length = c.l.length := by
                    simp only [List.length_append, List.length_take, List.length_replicate, List.length_drop]
                    omega
                  refine ⟨⟨.undef, [c.co], [(c.co, { ob' with cells := splice ob'.cells (off * sz) (repeatD z n) })]⟩, ?_, ?_⟩
                  · simp only [opClear, ht, hg, hsz, hz]
                    rw [if_pos ⟨gen, by rw [esz, hsz2], hsz3, hsnap, hzl, hcl⟩]
                  · refine upd_post (c' := { c with l := c.l.take off ++ List.replicate n elz ++ c.l.drop (off + n) }) hd hH ho hι hg rfl (fun _ => ⟨rfl, by simp only [hlen'], by rw [hlen']; exact Nat.le_refl _⟩) (fun ι' h13 h14 h15 => ?_) (fun ι' h13 => .undef) (Rd.cons hι Rd.nil) (by simp)
                    refine .row _ _ { ob' with cells := splice ob'.cells (off * sz) (repeatD z n) } [] rfl h13 (by rw [updF_one, if_pos rfl]) gen ty esz ag pos agOk (fun e => by rw [hsnap] at e; simp at e) (.inl f3) (fun w hw => ?_) ?_ (by simp only [hcn]; exact DUs.nil) (by simp) (by simp [hk]) (fun q hq => by simp only [hlen']; exact tag q hq)
                    · rcases List.mem_append.1 hw with hw | hw
                      · rcases List.mem_append.1 hw with hw | hw
                        · exact rows w (List.mem_of_mem_take hw)
                        · rw [List.eq_of_mem_replicate hw, hsz2]; exact hrow2
                      · exact rows w (List.mem_of_mem_drop hw)
                    · rw [cells, List.append_nil, ← hsz2]
                      exact (splice_clr rows hn (by rw [hzl, hsz2]) helc).symm
                · simp at f2
          · simp at h
        · simp at h
      · simp at h
    · simp at h
  · simp at h
end
end Go.Proofs.YtjofhegodknmaaaGreat.W
namespace Go.Proofs.YtjofhegodknmaaaGreat.W
open Go Go.RowKit
open V hiding At
section
variable {P : Program} {CR : Nat → List D → List D → Prop}
theorem OpPost.take {τ : Tg} {env : List D} {ι : Pl} {S : SSt} {e : Em} {u : SU} {tm : List U} {g : Nat → Option V.Obj} {id : Nat} {H : Nat → Nat} {x : U} (hd : Den τ env ι S tm g) (hH : HOk ι H) (hu : DU env ι u x) : OpPost τ env (SR.pure S e u).S (SR.pure S e u).u (SR.pure S e u).rd (SR.pure S e u).up tm g id H ⟨x, [], []⟩ := OpPost.pure hd hH hu Rd.nil
theorem one_ok {S : SSt} {e : Em} {r : SR} {x : Operand} {f : SU → Option SR} {F : (Nat → Option V.Obj) → Nat → List U → U → Option Res} (h : (evalS S.tm x).bind f = some r)
    (hf : ∀ u, f u = some r → Sp P CR e r.e fun env => ∀ τ ι tm g id H, Den τ env ι S tm g → HOk ι H → g id = none → ∀ y, DU env ι u y → ∃ res, F g id tm y = some res ∧ OpPost τ env r.S r.u r.rd r.up tm g id H res) :
    OpSp P CR S e r fun g id tm => (evalU tm x).bind (F g id tm) := by
  simp only [Option.bind_eq_some_iff] at h
  obtain ⟨u, hu, h⟩ := h
  refine (hf u h).mono fun env _ q τ ι tm g id H hd hH hid => ?_
  obtain ⟨y, hy, hdu⟩ := evalS_ok hd.tm hu
  obtain ⟨res, h1, h2⟩ := q τ ι tm g id H hd hH hid y hdu
  exact ⟨res, by simp only [hy, Option.bind_some]; exact h1, h2⟩
theorem two_ok {S : SSt} {e : Em} {r : SR} {x z : Operand} {f : SU → SU → Option SR} {F : (Nat → Option V.Obj) → Nat → List U → U → U → Option Res} (h : ((evalS S.tm x).bind fun u => (evalS S.tm z).bind (f u)) = some r)
    (hf : ∀ u w, f u w = some r → Sp P CR e r.e fun env => ∀ τ ι tm g id H, Den τ env ι S tm g → HOk ι H → g id = none → ∀ y q, DU env ι u y → DU env ι w q → ∃ res, F g id tm y q = some res ∧ OpPost τ env r.S r.u r.rd r.up tm g id H res) :
    OpSp P CR S e r fun g id tm => (evalU tm x).bind fun u => (evalU tm z).bind (F g id tm u) := by
  simp only [Option.bind_eq_some_iff] at h
  obtain ⟨u, hu, w, hw, h⟩ := h
  refine (hf u w h).mono fun env _ q τ ι tm g id H hd hH hid => ?_
  obtain ⟨y, hy, hdu⟩ := evalS_ok hd.tm hu
  obtain ⟨v, hv, hdv⟩ := evalS_ok hd.tm hw
  obtain ⟨res, h1, h2⟩ := q τ ι tm g id H hd hH hid y v hdu hdv
  exact ⟨res, by simp only [hy, hv, Option.bind_some]; exact h1, h2⟩
theorem OpSp.congr {S : SSt} {e : Em} {r : SR} {f f' : (Nat → Option V.Obj) → Nat → List U → Option Res} (h : OpSp P CR S e r f) (hf : ∀ g id tm res, f g id tm = some res → f' g id tm = some res) : OpSp P CR S e r f' :=
  Sp.mono h fun env _ q τ ι tm g id H hd hH hid => by
    obtain ⟨res, h1, h2⟩ := q τ ι tm g id H hd hH hid
    exact ⟨res, hf _ _ _ _ h1, h2⟩
theorem mapM_eval {env : List D} {ι : Pl} {ts : List SU} {tm : List U} (h : DUs env ι ts tm) : ∀ {xs : List Operand} {us : List SU}, xs.mapM (evalS ts) = some us → ∃ ys, xs.mapM (evalU tm) = some ys ∧ DUs env ι us ys
  | [], us, hx => by simp at hx; subst hx; exact ⟨[], rfl, DUs.nil⟩
  | x :: r, us, hx => by
    rw [List.mapM_cons] at hx
    cases hu : evalS ts x with
    | none => simp [hu] at hx
    | some u =>
      cases hr : r.mapM (evalS ts) with
      | none => simp [hu, hr] at hx
      | some l =>
        simp [hu, hr] at hx
        subst hx
        obtain ⟨y, hy, hdu⟩ := evalS_ok h hu
        obtain ⟨ys, hys, hdus⟩ := mapM_eval h hr
        refine ⟨y :: ys, ?_, DUs.cons hdu hdus⟩
        rw [List.mapM_cons, hy, hys]
        rfl
theorem slice_nil {tm : List U} {o : Oper} {t el : TypeId} {x : Operand} {lo hi : Option Operand} {yl yh : Option U} {sz : Nat} (hop : o.op = .slice t x lo hi none) (ht : P.underlying t = some (.slice el)) (hsz : sizeT P el = some sz) (hx : evalU tm x = some (.dat .nil)) (h1 : optU tm lo = some yl) (h2 : optU tm hi = some yh) (b1 : bound 0 yl = some 0) (b2 : bound 0 yh = some 0) (w : World) :
    opPure P tm o = none ∨ opPure P tm o = some ⟨.dat .nil, [], []⟩ := by
  letI : Sig := sig0
  cases he : opPure P tm o with
  | none => exact .inl rfl
  | some r =>
    right
    have val : ∀ {l : Option Operand} {y : Option U}, optU tm l = some y → bound 0 y = some 0 → (l.map (fun x => ((evalU tm x).bind valU).getD undef) = none ∧ 0 = 0) ∨ ∃ k i, l.map (fun x => ((evalU tm x).bind valU).getD undef) = some (.int k i) ∧ 0 ≤ i ∧ 0 = i.toNat := by
      intro l y hl hb
      cases l with
      | none => exact .inl ⟨rfl, rfl⟩
      | some q =>
        simp only [optU] at hl
        obtain ⟨u, hu, rfl⟩ := Option.map_eq_some_iff.1 hl
        unfold bound at hb
        split at hb
        · rename_i e; simp at e
        · rename_i k i e
          simp only [Option.some.injEq] at e
          subst e
          split at hb
          · rename_i h0
            exact .inr ⟨k, i, by simp only [Option.map_some, hu]; rfl, h0, (Option.some.inj hb).symm⟩
          · simp at hb
        · simp at hb
    have hrun : (execOp (fun x => ((evalU tm x).bind valU).getD undef) o).run P w = .ok (.value (.slice none 0 0)) w := by
      have hb := run_sliceBounds (P := P) (w := w) (cap := 0) (val h1 b1) (val h2 b2) (Nat.le_refl 0) (Nat.le_refl 0)
      have hs := V.run_sizeOf hsz w
      have hv : ((evalU tm x).bind valU).getD undef = .slice none 0 0 := by rw [hx]; rfl
      simp [execOp, hop, Instr.sliceAt, run_underlying (P := P) ht, Instr.slice, hv, hb, hs]
    unfold opPure at he
    split at he
    · split at he
      · simp at he
      · split at he
        · rename_i v hv
          have := pureSem_run P _ _ hv w
          rw [hrun] at this
          injection this with e1
          injection e1 with e2
          subst e2
          have : constD (.slice none 0 0) = some .nil := rfl
          rw [this] at he
          simp only [Option.map_some, Option.some.injEq] at he
          rw [← he]
        · simp at he
    · simp at he
theorem sOp_ok {S : SSt} {e : Em} {o : Oper} {r : SR} (h : sOp P S e o = some r) : OpSp P CR S e r fun g id tm => opStep P g id tm o := by
  have move : ∀ {x : Operand}, (evalS S.tm x).map (fun u => SR.pure S e u) = some r → OpSp P CR S e r fun g id tm => (evalU tm x).map fun u => ⟨u, [], []⟩ := by
    intro x h
    obtain ⟨u, hu, rfl⟩ := Option.map_eq_some_iff.1 h
    refine Sp.refl fun env _ τ ι tm g id H hd hH hid => ?_
    obtain ⟨y, hy, hdu⟩ := evalS_ok hd.tm hu
    exact ⟨⟨y, [], []⟩, by simp only [hy, Option.map_some], OpPost.pure hd hH hdu Rd.nil⟩
  have prim : sPrim P S e o = some r → (∀ g id tm, opStep P g id tm o = opPure P tm o ∨ ∃ z, opStep P g id tm o = match opPure P tm o with | some r => some r | none => z) → OpSp P CR S e r fun g id tm => opStep P g id tm o := by
    intro h hs
    refine (sPrim_ok h).congr fun g id tm res hres => ?_
    rcases hs g id tm with h1 | ⟨z, h1⟩
    · rw [h1]; exact hres
    · rw [h1, hres]
  unfold sOp at h
  split at h
  · rename_i x hop; exact (move h).congr fun g id tm res hr => by simp only [opStep, hop]; exact hr
  · rename_i x hop; exact (move h).congr fun g id tm res hr => by simp only [opStep, hop]; exact hr
  · -- pick
    rename_i c a b hop
    have pk : ∀ {t : Bool} {y : Operand}, evalS S.tm c = some (.at (.c (.bool t))) → (evalS S.tm y).map (fun u => SR.pure S e u) = some r → y = (if t then a else b) → OpSp P CR S e r fun g id tm => opStep P g id tm o := by
      intro t y hc hy he
      obtain ⟨u, hu, rfl⟩ := Option.map_eq_some_iff.1 hy
      refine Sp.refl fun env _ τ ι tm g id H hd hH hid => ?_
      obtain ⟨q, hq, hdq⟩ := evalS_ok hd.tm hc
      obtain ⟨v, hv, hdv⟩ := evalS_ok hd.tm hu
      cases hdq with
      | «at» hat =>
        simp only [atD, Option.some.injEq] at hat
        subst hat
        refine ⟨⟨v, [], []⟩, ?_, OpPost.pure hd hH hdv Rd.nil⟩
        simp only [opStep, hop, hq]
        cases t <;> (simp only [Bool.false_eq_true, if_true, if_false] at he; subst he; simp only [hv, Option.map_some])
    split at h
    · rename_i hc; exact pk hc h rfl
    · rename_i hc; exact pk hc h rfl
    · simp at h
  · -- alloc
    rename_i t hop
    simp only [Option.bind_eq_some_iff] at h
    obtain ⟨z, hz, h⟩ := h
    have he : r.e = e := by
      unfold sAlloc at h
      split at h
      · split at h
        · obtain rfl := Option.some.inj h; rfl
        · simp at h
      · simp at h
    have : OpSp P CR S e r fun g id tm => opStep P g id tm o := by
      refine ⟨by rw [he]; exact Gr.refl e, fun env hb hdf => ⟨by rw [he]; exact hdf, fun τ ι tm g id H hd hH hid => ?_⟩⟩
      obtain ⟨_, res, h1, h2⟩ := sAlloc_ok h hd hH hid (DUs.consts z) (dats_one (zeroT_one hz))
      exact ⟨res, by simp only [opStep, hop, hz, Option.bind_some]; exact h1, h2⟩
    exact this
  · -- box
    rename_i t x hop
    split at h
    · rename_i u n hu hn
      simp only [Option.bind_eq_some_iff] at h
      obtain ⟨⟨cs, e1⟩, hcs, h⟩ := h
      have he : r.e = e1 := by
        unfold sAlloc at h
        split at h
        · split at h
          · obtain rfl := Option.some.inj h; rfl
          · simp at h
        · simp at h
      have hsp := cellsS_sp (CR := CR) hcs
      refine ⟨by rw [he]; exact hsp.1, fun env hb hdf => ?_⟩
      rw [he] at hb ⊢
      obtain ⟨d1, q⟩ := hsp.2 env hb hdf
      refine ⟨d1, fun τ ι tm g id H hd hH hid => ?_⟩
      obtain ⟨y, hy, hdu⟩ := evalS_ok hd.tm hu
      obtain ⟨h1, h2, h3⟩ := q ι y hdu
      obtain ⟨_, res, h4, h5⟩ := sAlloc_ok h hd hH hid h1 h3
      exact ⟨res, by simp only [opStep, hop, hy, Option.bind_some]; exact h4, h5⟩
    · simp at h
  · rename_i t ps hop; exact (sBuild_ok h).congr fun g id tm res hr => by simp only [opStep, hop]; exact hr
  · rename_i t n ps hop; exact (sBuildSlice_ok h).congr fun g id tm res hr => by simp only [opStep, hop]; exact hr
  · rename_i t a hop
    exact (one_ok (F := fun g id tm => opLoad P g t) h fun u hu => sLoad_ok hu).congr fun g id tm res hr => by simp only [opStep, hop]; exact hr
  · rename_i t a x hop
    exact (two_ok (F := fun g id tm => opStore P g t) h fun u w hu => sStore_ok hu).congr fun g id tm res hr => by simp only [opStep, hop]; exact hr
  · -- nilCheck
    rename_i x hop
    split at h
    · rename_i a b hx
      obtain rfl := Option.some.inj h
      refine Sp.refl fun env _ τ ι tm g id H hd hH hid => ?_
      obtain ⟨y, hy, hdu⟩ := evalS_ok hd.tm hx
      cases hdu with
      | ptr hι => exact ⟨_, by simp only [opStep, hop, hy], OpPost.pure hd hH (.ptr hι) Rd.nil⟩
    · rename_i a b c hx
      obtain rfl := Option.some.inj h
      refine Sp.refl fun env _ τ ι tm g id H hd hH hid => ?_
      obtain ⟨y, hy, hdu⟩ := evalS_ok hd.tm hx
      cases hdu with
      | fp ha hs => exact ⟨_, by simp only [opStep, hop, hy], OpPost.pure hd hH (.fp ha hs) Rd.nil⟩
    · rename_i a b c d hx
      obtain rfl := Option.some.inj h
      refine Sp.refl fun env _ τ ι tm g id H hd hH hid => ?_
      obtain ⟨y, hy, hdu⟩ := evalS_ok hd.tm hx
      cases hdu with
      | ep hι hi he hz => exact ⟨_, by simp only [opStep, hop, hy], OpPost.pure hd hH (.ep hι hi he hz) Rd.nil⟩
    · rename_i f cs hx
      obtain rfl := Option.some.inj h
      refine Sp.refl fun env _ τ ι tm g id H hd hH hid => ?_
      obtain ⟨y, hy, hdu⟩ := evalS_ok hd.tm hx
      cases hdu with
      | fn hl hh => exact ⟨_, by simp only [opStep, hop, hy], OpPost.pure hd hH (.fn hl hh) Rd.nil⟩
    · rename_i a _ hx
      obtain ⟨q, hq, rfl⟩ := Option.map_eq_some_iff.1 h
      refine (fold_sp hq).mono fun env _ q1 τ ι tm g id H hd hH hid => ?_
      obtain ⟨y, hy, hdu⟩ := evalS_ok hd.tm hx
      cases hdu with
      | «at» ha =>
        obtain ⟨d, h1, h2⟩ := pop1 q1 ha
        simp only [popD] at h1
        split at h1
        · exact ⟨_, by simp only [opStep, hop, hy], OpPost.pure hd hH (.at ha) Rd.nil⟩
        · exact ⟨_, by simp only [opStep, hop, hy], OpPost.pure hd hH (.at ha) Rd.nil⟩
        · simp at h1
    · simp at h
  · rename_i s x f hop
    exact (one_ok (F := fun g id tm => opFieldAddr P s f) h fun u hu => sFieldAddr_ok hu).congr fun g id tm res hr => by simp only [opStep, hop]; exact hr
  · rename_i t x f hop
    exact (one_ok (F := fun g id tm => opField P t f) h fun u hu => sField_ok hu).congr fun g id tm res hr => by simp only [opStep, hop]; exact hr
  · rename_i t x i hop
    exact (two_ok (F := fun g id tm => opIndexAddr P g t) h fun u w hu => sIndexAddr_ok hu).congr fun g id tm res hr => by simp only [opStep, hop]; exact hr
  · -- index
    rename_i t x i hop
    split at h
    · exact prim h fun g id tm => .inr ⟨_, by simp only [opStep, hop]; rfl⟩
    · simp at h
  · -- slice
    rename_i t x lo hi mx hop
    split at h
    · exact prim h fun g id tm => .inr ⟨_, by simp only [opStep, hop]; rfl⟩
    · have hsp := one_ok (CR := CR) (F := fun g id tm u => opSlice P g tm t u lo hi mx) h fun u hu => sSlice_ok hu
      refine hsp.congr fun g id tm res hr => ?_
      simp only [opStep, hop]
      obtain ⟨u, hu, hr2⟩ := Option.bind_eq_some_iff.1 hr
      have none_ok : opPure P tm o = none ∨ opPure P tm o = some res := by
        cases hv : valU u with
        | none => exact .inl (opPure_none (x := x) (by rw [hop]; simp [Op.operands]) (by rw [hu]; exact hv))
        | some v =>
          unfold opSlice at hr2
          split at hr2
          · rename_i l hh el hl hhi hus
            split at hr2
            · simp [valU, valD, val1] at hv
            · split at hr2
              · rename_i hA hB hsz
                obtain rfl := Option.some.inj hr2
                exact slice_nil hop hus hsz hu hl hhi hA hB default
              · simp at hr2
            · simp [valU] at hv
            · simp at hr2
          · simp at hr2
      rcases none_ok with h0 | h0
      · rw [h0]; exact hr
      · rw [h0]
  · -- extract
    rename_i x i hop
    split at h
    · rename_i l hx
      obtain ⟨u, hu, rfl⟩ := Option.map_eq_some_iff.1 h
      refine Sp.refl fun env _ τ ι tm g id H hd hH hid => ?_
      obtain ⟨y, hy, hdu⟩ := evalS_ok hd.tm hx
      cases hdu with
      | tup hl hh =>
        rename_i us
        obtain ⟨v, hv, hdv⟩ := DUs.get (show DUs env ι l us from ⟨hl, hh⟩) hu
        exact ⟨⟨v, [], []⟩, by simp only [opStep, hop, hy, hv, Option.map_some], OpPost.pure hd hH hdv Rd.nil⟩
    · simp at h
  · -- makeFunc
    rename_i f first caps hop
    split at h
    · rename_i hf
      obtain ⟨l, hl, rfl⟩ := Option.map_eq_some_iff.1 h
      refine Sp.refl fun env _ τ ι tm g id H hd hH hid => ?_
      obtain ⟨ys, hys, hdus⟩ := mapM_eval hd.tm hl
      exact ⟨⟨.fn f ys, [], []⟩, by simp only [opStep, hop, hf, if_true, hys, Option.map_some], OpPost.pure hd hH (.fn hdus.1 hdus.2) Rd.nil⟩
    · simp at h
  · rename_i t hop
    exact (sMakeMap_ok h).congr fun g id tm res hr => by simp only [opStep, hop]; exact hr
  · rename_i t x i ok hop
    split at h
    · simp at h
    · obtain ⟨u, hu, h⟩ := Option.bind_eq_some_iff.1 h
      obtain ⟨v, hv, h⟩ := Option.bind_eq_some_iff.1 h
      refine (sLookup_ok h).mono fun env _ q τ ι tm g id H hd hH hid => ?_
      obtain ⟨y, hy, hdu⟩ := evalS_ok hd.tm hu
      obtain ⟨w, hw, hdw⟩ := evalS_ok hd.tm hv
      obtain ⟨hval, res, k1, k2⟩ := q τ ι tm g id H hd hH hid y w hdu hdw
      have hops : x ∈ o.op.operands.toList := by rw [hop]; simp [Op.operands]
      refine ⟨res, ?_, k2⟩
      simp only [opStep, hop]
      rw [opPure_none hops (by rw [hy]; exact hval)]
      simp only [hy, hw, Option.bind_some]
      exact k1
  · rename_i t m k x hop
    obtain ⟨u, hu, h⟩ := Option.bind_eq_some_iff.1 h
    obtain ⟨v, hv, h⟩ := Option.bind_eq_some_iff.1 h
    obtain ⟨w, hw, h⟩ := Option.bind_eq_some_iff.1 h
    refine (sMapPut_ok h).mono fun env _ q τ ι tm g id H hd hH hid => ?_
    obtain ⟨a, ha, hda⟩ := evalS_ok hd.tm hu
    obtain ⟨b, hb, hdb⟩ := evalS_ok hd.tm hv
    obtain ⟨c, hc, hdc⟩ := evalS_ok hd.tm hw
    obtain ⟨res, k1, k2⟩ := q τ ι tm g id H hd hH hid a b c hda hdb hdc
    refine ⟨res, ?_, k2⟩
    simp only [opStep, hop, ha, hb, hc, Option.bind_some]
    exact k1
  · rename_i t l c hop
    exact (two_ok (F := fun g id tm => opMakeSlice P id t) h fun u w hu => sMakeSlice_ok hu).congr fun g id tm res hr => by simp only [opStep, hop]; exact hr
  · rename_i t x y w hop
    split at h
    · exact prim h fun g id tm => .inr ⟨_, by simp only [opStep, hop]; rfl⟩
    · obtain ⟨u, hu, h⟩ := Option.bind_eq_some_iff.1 h
      obtain ⟨v, hv, h⟩ := Option.bind_eq_some_iff.1 h
      exact (sEql_ok (by rw [hop]; rfl) hu hv h).congr fun g id tm res hr => by simp only [opStep, hop]; exact hr
  · rename_i t x y w hop
    split at h
    · exact prim h fun g id tm => .inr ⟨_, by simp only [opStep, hop]; rfl⟩
    · obtain ⟨u, hu, h⟩ := Option.bind_eq_some_iff.1 h
      obtain ⟨v, hv, h⟩ := Option.bind_eq_some_iff.1 h
      exact (sEql_ok (by rw [hop]; rfl) hu hv h).congr fun g id tm res hr => by simp only [opStep, hop]; exact hr
  · rename_i op t x y w n1 n2 hop
    refine prim h fun g id tm => .inl ?_
    cases op <;> first | exact absurd rfl n1 | exact absurd rfl n2 | simp only [opStep, hop]
  · rename_i op t x hop
    exact prim h fun g id tm => .inl (by simp only [opStep, hop])
  · -- convert
    rename_i s d x hop
    have conv : ((evalS S.tm x).bind (sConvert P S e o s d x)) = some r → OpSp P CR S e r fun g id tm => opStep P g id tm o := by
      intro h
      obtain ⟨u, hu, h⟩ := Option.bind_eq_some_iff.1 h
      exact (sConvert_ok (by rw [hop]; rfl) hu h).congr fun g id tm res hr => by simp only [opStep, hop]; exact hr
    split at h
    · exact conv h
    · exact conv h
    · exact prim h fun g id tm => .inr ⟨_, by simp only [opStep, hop]; rfl⟩
  · -- calls of what is built in
    rename_i c hop
    split at h
    · rename_i s x t tx hc ha ht
      exact (two_ok (F := fun g id tm => opAppend P g id t tx) h fun u w hu => sAppend_ok hu).congr fun g id tm res hr => by simp only [opStep, hop, hc, ha, ht]; exact hr
    · rename_i x t hc ha ht
      split at h
      · exact prim h fun g id tm => .inr ⟨_, by simp only [opStep, hop, hc, ha, ht]; rfl⟩
      · obtain ⟨u, hu, h⟩ := Option.bind_eq_some_iff.1 h
        exact (sLen_ok hop hc ha ht hu h).congr fun g id tm res hr => by simp only [opStep, hop, hc, ha, ht]; exact hr
    · rename_i x t hc ha ht
      obtain ⟨u, hu, h⟩ := Option.bind_eq_some_iff.1 h
      refine (sClear_ok h).mono fun env _ q τ ι tm g id H hd hH hid => ?_
      obtain ⟨y, hy, hdu⟩ := evalS_ok hd.tm hu
      obtain ⟨res, k1, k2⟩ := q τ ι tm g id H hd hH hid y hdu
      exact ⟨res, by simp only [opStep, hop, hc, ha, ht, hy, Option.bind_some]; exact k1, k2⟩
    · rename_i b hc n1 n2 n3
      cases b
      all_goals first
        | (simp only [if_true, reduceCtorEq] at h; done)
        | (simp only [Bool.false_eq_true, if_false] at h
           exact prim h fun g id tm => .inl (by simp only [opStep, hop, hc]))
    · simp at h
  · simp at h
end
end Go.Proofs.YtjofhegodknmaaaGreat.W
namespace Go.Proofs.YtjofhegodknmaaaGreat.W
open Go Go.RowKit
open V hiding At
def viewU (g : Nat → Option V.Obj) (b : Bool) (u : U) : U :=
  if b then
    match toD g 40 u with
    | some (d, _) => .dat d
    | none => u
  else u
def viewO (g : Nat → Option V.Obj) (Z : List Nat) (cv : Nat → Nat → Bool) (o : Nat) (ob : V.Obj) : V.Obj := { ob with snap := ob.snap || Z.contains o, cells := ob.cells.mapIdx fun j u => viewU g (cv o j) u }
def viewSt (s : St) (Z : List Nat) (tv : Nat → Bool) (cv : Nat → Nat → Bool) (nx : Nat) : St :=
  ⟨s.tm.mapIdx fun t u => viewU (getO s.st) (tv t) u, s.st.map fun p => (p.1, viewO (getO s.st) Z cv p.1 p.2), nx⟩
theorem getO_map2 {f : Nat → V.Obj → V.Obj} : ∀ (s : Store) (o : Nat), getO (s.map fun p => (p.1, f p.1 p.2)) o = (getO s o).map (f o)
  | [], o => rfl
  | (p, c) :: r, o => by
    simp only [List.map_cons, getO]
    split
    · rename_i h; subst h; rfl
    · exact getO_map2 r o
structure VwOk (s : St) (Z : List Nat) (tv : Nat → Bool) (cv : Nat → Nat → Bool) : Prop where
  tm : ∀ t u d ids, tv t = true → s.tm[t]? = some u → toD (getO s.st) 40 u = some (d, ids) → ∀ z ∈ ids, z ∈ Z
  ob : ∀ o ob j u d ids, getO s.st o = some ob → cv o j = true → ob.cells[j]? = some u → toD (getO s.st) 40 u = some (d, ids) → ∀ z ∈ ids, z ∈ Z
theorem viewU_one {g : Nat → Option V.Obj} {b : Bool} {u : U} (h : u.one = true) : (viewU g b u).one = true := by
  unfold viewU
  cases b with
  | false => exact h
  | true =>
    simp only [if_true]
    split
    · rename_i d ids hd
      exact toD_one 40 hd h
    · exact h
section
variable [Sig] {P : Program}
theorem view_rep {w : World} {F : Mem} {L : Lay} {b0 : Nat} {g : Nat → Option V.Obj} (hS : V.SR w F L b0 g) {Z : List Nat} {b : Bool} {u : U} {v : Value} (hz : ∀ d ids, b = true → toD g 40 u = some (d, ids) → ∀ z ∈ ids, z ∈ Z) (hr : RepU F L u v) : RepU (FS F w L g Z) L (viewU g b u) v := by
  unfold viewU
  cases b with
  | false => exact hr.mono (FS_le _ _ _ _ _) (.refl _)
  | true =>
    simp only [if_true]
    split
    · rename_i d ids h
      exact .dat _ _ ((toD_rep hS 40 u v (d, ids) h hr).mono (FS_mono fun z h2 => hz d ids rfl h z h2))
    · exact hr.mono (FS_le _ _ _ _ _) (.refl _)
theorem view_sr {s : St} {Z : List Nat} {tv : Nat → Bool} {cv : Nat → Nat → Bool} {nx : Nat} {w : World} {F : Mem} {L : Lay} {b0 : Nat} {tmps : Array Value} (hS : V.SR w F L b0 (getO s.st)) (hT : TR F L s.tm tmps) (hv : VwOk s Z tv cv) :
    V.SR w (FS F w L (getO s.st) Z) L b0 (getO (viewSt s Z tv cv nx).st) ∧ Evo w F L w (FS F w L (getO s.st) Z) L ∧ TR (FS F w L (getO s.st) Z) L (viewSt s Z tv cv nx).tm tmps := by
  have hg : ∀ o, getO (viewSt s Z tv cv nx).st o = (getO s.st o).map (viewO (getO s.st) Z cv o) := fun o => getO_map2 (f := viewO (getO s.st) Z cv) s.st o
  have hs := hS.snapped Z
  refine ⟨⟨hs.1.mem, fun o ho => ?_, fun o ob' ho => ?_, hS.inj⟩, hs.2, ?_⟩
  · rw [hg] at ho
    exact hS.non o (by simpa using ho)
  · rw [hg] at ho
    obtain ⟨ob, hob, rfl⟩ := Option.map_eq_some_iff.1 ho
    have hob2 : ∃ ob2, updF (getO s.st) (snapAll (getO s.st) Z) o = some ob2 ∧ ob2.cells = ob.cells ∧ ob2.ty = ob.ty ∧ ob2.gen = ob.gen ∧ ob2.esz = ob.esz ∧ ob2.snap = (ob.snap || Z.contains o) := by
      rw [updF_snap (getO s.st) Z (getO s.st) (fun _ => .inl rfl)]
      split
      · rename_i hin
        rw [hob]
        exact ⟨_, rfl, rfl, rfl, rfl, rfl, by simp [hin]⟩
      · rename_i hin
        exact ⟨ob, hob, rfl, rfl, rfl, rfl, by simp [hin]⟩
    obtain ⟨ob2, h0, h1, h2, h3, h4, h5⟩ := hob2
    obtain ⟨i, arr, hL, r1, r2, r3, r4, hh, r5, hcl, hfr⟩ := hs.1.obj o ob2 h0
    obtain ⟨i2, arr2, hL2, _, _, _, _, hh2, _, hcl2, _⟩ := hS.obj o ob hob
    rw [hL] at hL2
    obtain rfl := Option.some.inj hL2
    obtain rfl := hh.inj hh2
    have hlen : (viewO (getO s.st) Z cv o ob).cells.length = ob2.cells.length := by rw [h1]; simp [viewO]
    refine ⟨i, arr, hL, by rw [r1, h3]; rfl, by rw [r2, h4]; rfl, by rw [h4] at r3; exact r3, r4, hh.like (by rw [h2]; rfl) (by rw [h4]; rfl) hlen, by rw [hlen]; exact r5, fun j u hu => ?_, fun off hoff => hfr off fun hsn => by
      have := hoff (by rw [h5] at hsn; exact hsn)
      rw [hlen] at this
      exact this⟩
    simp only [viewO, List.getElem?_mapIdx] at hu
    obtain ⟨y, hy, rfl⟩ := Option.map_eq_some_iff.1 hu
    obtain ⟨g1, v, hv', hr⟩ := hcl2 j y hy
    exact ⟨fun he => viewU_one (g1 he), v, hv', view_rep hS (fun d ids hb hd => hv.ob o ob j y d ids hob hb hy hd) hr⟩
  · refine ⟨by simp only [viewSt, List.length_mapIdx]; exact hT.1, fun t u hu => ?_⟩
    simp only [viewSt, List.getElem?_mapIdx] at hu
    obtain ⟨y, hy, rfl⟩ := Option.map_eq_some_iff.1 hu
    obtain ⟨v, hv', hr⟩ := hT.2 t y hy
    exact ⟨v, hv', view_rep hS (fun d ids hb hd => hv.tm t y d ids hb hy hd) hr⟩
theorem Run.view {c : Code} {s s1 : St} {x : X} (h : Run P c s x s1) {Z : List Nat} {tv : Nat → Bool} {cv : Nat → Nat → Bool} {nx : Nat} (hv : VwOk s1 Z tv cv) (hnx : s1.nx ≤ nx) : Run P c s x (viewSt s1 Z tv cv nx) := by
  have hg : ∀ o, getO (viewSt s1 Z tv cv nx).st o = (getO s1.st o).map (viewO (getO s1.st) Z cv o) := fun o => getO_map2 (f := viewO (getO s1.st) Z cv) s1.st o
  refine ⟨fun hf y hy => ?_, fun w F L b0 a hS hT hd hf hb => ?_⟩
  · rw [hg, h.fresh hf y (Nat.le_trans hnx hy)]
    rfl
  · refine Code.wp_mono (fun e a' w' hp => ?_) (h.wp w F L b0 a hS hT hd hf hb)
    obtain ⟨rfl, hd', F', L', hE, hS', hT'⟩ := hp
    obtain ⟨h1, h2, h3⟩ := view_sr (nx := nx) hS' hT' hv
    exact ⟨rfl, hd', _, L', hE.trans h2, h1, h3⟩
end
end Go.Proofs.YtjofhegodknmaaaGreat.W
namespace Go.Proofs.YtjofhegodknmaaaGreat.W
open Go Go.RowKit
open V hiding At
abbrev CallF := Nat → List U → Store → Nat → Option (U × Store × Nat)
structure Know (P : Program) (C : Cfg) (CR : Nat → List D → List D → Prop) : Prop where
  det : ∀ f ds rs rs', CR f ds rs → CR f ds rs' → rs = rs'
  holds : ∀ f ds rs, C.sig f = none → CR f ds rs → @V.Holds sig0 P f ds rs
  body : ∀ f ds rs, CR f ds rs → isBody P f = true
open Classical in
noncomputable def anOf (C : Cfg) (CR : Nat → List D → List D → Prop) (call : Nat → List U → Store → Nat → Option (U × Store × Nat)) : An where
  io := fun f => match C.sig f with | some sg => sg.io | none => false
  ior := fun f => match C.sig f with | some sg => sg.ior | none => false
  ownRes := fun _ => false
  spec := fun f ds => if h : C.sig f = none ∧ ∃ rs, CR f ds rs then some (Classical.choose h.2) else none
  call := call
theorem anOf_spec {P : Program} {C : Cfg} {CR : Nat → List D → List D → Prop} (hk : Know P C CR) {call : Nat → List U → Store → Nat → Option (U × Store × Nat)} {f : Nat} {ds rs : List D} (hs : C.sig f = none) (h : CR f ds rs) : (anOf C CR call).spec f ds = some rs := by
  have hx : C.sig f = none ∧ ∃ rs, CR f ds rs := ⟨hs, rs, h⟩
  simp only [anOf, dif_pos hx]
  rw [hk.det f ds _ _ (Classical.choose_spec hx.2) h]
theorem anOf_ok {P : Program} {C : Cfg} {CR : Nat → List D → List D → Prop} (hk : Know P C CR) {call : Nat → List U → Store → Nat → Option (U × Store × Nat)} : @SpecOk sig0 P (anOf C CR call) := by
  intro f ds rs h
  simp only [anOf] at h
  split at h
  · rename_i hx
    obtain rfl := Option.some.inj h
    exact hk.holds f ds _ hx.1 (Classical.choose_spec hx.2)
  · simp at h
theorem anOf_orc {C : Cfg} {CR : Nat → List D → List D → Prop} {call : Nat → List U → Store → Nat → Option (U × Store × Nat)} {tm : List U} {o : Oper} : orcU (anOf C CR call) tm o = none := rfl
def OperPost (τ : Tg) (env : List D) (r : SR) (tm : List U) (st : Store) (nx id : Nat) (H : Nat → Nat) (cr : CallRes) : Prop :=
  ∃ ι' H', Den τ env ι' r.S tm (getO (setAll st cr.res.up)) ∧ DU env ι' r.u cr.res.u ∧ (∀ x, getO st x ≠ none → H' x = H x) ∧ HOk ι' H' ∧ (∀ x ∈ cr.res.rd, H' x ∈ r.rd ∧ getO st x ≠ none) ∧ (∀ p ∈ cr.res.up, H' p.1 ∈ r.up) ∧
    (cr.cl = true → r.cl = true) ∧ nx ≤ cr.nx ∧ ∀ p ∈ cr.res.up, p.1 = id ∨ getO st p.1 ≠ none ∨ (nx ≤ p.1 ∧ p.1 < cr.nx)
theorem OperPost.of_op {τ : Tg} {env : List D} {r : SR} {tm : List U} {st : Store} {nx id : Nat} {H : Nat → Nat} {res : Res} (hid : getO st id = none) (h : OpPost τ env r.S r.u r.rd r.up tm (getO st) id H res) : OperPost τ env r tm st nx id H ⟨res, nx, false⟩ := by
  obtain ⟨ι', H', h1, h2, h3, h4, h5, h6⟩ := h
  refine ⟨ι', H', by rw [getO_setAll]; exact h1, h2, fun x hx => h3 x fun e => by subst e; exact hx hid, h4, h5, fun p hp => (h6 p hp).1, (fun h => by cases h), Nat.le_refl _, fun p hp => ?_⟩
  rcases (h6 p hp).2 with h | h
  · exact .inl h
  · exact .inr (.inl h)
def OperSp (P : Program) (C : Cfg) (CR : Nat → List D → List D → Prop) (call : CallF) (S : SSt) (e : Em) (r : SR) (o : Oper) : Prop :=
  Sp P CR e r.e fun env => ∀ τ ι tm st nx id H, Den τ env ι S tm (getO st) → HOk ι H → getO st id = none → (∀ x, nx ≤ x → getO st x = none) → ∃ cr, (∀ k, oper P (anOf C CR call) (k + 3) id o tm (getO st) nx = some cr) ∧ OperPost τ env r tm st nx id H cr
theorem OperSp.of_op {P : Program} {C : Cfg} {CR : Nat → List D → List D → Prop} {call : CallF} {S : SSt} {e : Em} {r : SR} {o : Oper} (h : OpSp P CR S e r fun g id tm => opStep P g id tm o) : OperSp P C CR call S e r o :=
  Sp.mono h fun env _ q τ ι tm st nx id H hd hH hid _ => by
    obtain ⟨res, h1, h2⟩ := q τ ι tm (getO st) id H hd hH hid
    exact ⟨⟨res, nx, false⟩, fun k => oper_step anOf_orc h1, OperPost.of_op hid h2⟩
section
variable {P : Program} {CR : Nat → List D → List D → Prop}
theorem resS_ok {env : List D} {ι : Pl} {m : Nat} : ∀ {n : Nat} {rs : List D}, rs.length = n → (∀ i d, rs[i]? = some d → env[m + i]? = some d) → DUs env ι (resS m n) (rs.map .dat) := by
  intro n
  induction n with
  | zero =>
    intro rs hl _
    rw [List.eq_nil_of_length_eq_zero hl]
    exact DUs.nil
  | succ n ih =>
    intro rs hl h
    rcases List.eq_nil_or_concat rs with e | ⟨q, d, e⟩
    · subst e; simp at hl
    · rw [List.concat_eq_append] at e
      subst e
      have hdl : q.length = n := by simpa using hl
      have h1 := ih (rs := q) hdl fun i x hi => by
        refine h i x ?_
        rw [List.getElem?_append_left (List.getElem?_eq_some_iff.1 hi).1]
        exact hi
      have h3 : env[m + n]? = some d := h n d (by rw [List.getElem?_append_right (by omega), hdl, Nat.sub_self]; rfl)
      rw [List.map_append]
      simp only [resS]
      exact h1.app (DUs.cons (.at h3) DUs.nil)
theorem oneS_ok {env : List D} {ι : Pl} {us : List SU} {rs : List D} (h : DUs env ι us (rs.map .dat)) : DU env ι (oneS us) (resD rs) := by
  cases us with
  | nil =>
    have : rs = [] := by
      have := h.1
      simp at this
      exact this
    subst this
    exact .tup h.1 h.2
  | cons u r =>
    cases rs with
    | nil => have := h.1; simp at this
    | cons d q =>
      cases r with
      | nil =>
        have : q = [] := by
          have := h.1
          simp at this
          exact this
        subst this
        exact h.2 0 u (.dat d) rfl rfl
      | cons u2 r =>
        cases q with
        | nil => have := h.1; simp at this
        | cons d2 q => exact .tup h.1 h.2
theorem getS_snap {ids : List Nat} {S : SSt} (o : Nat) : getS (snapS ids S).st o = (getS S.st o).map fun b => { b with snap := b.snap || ids.contains o } := by
  simp only [snapS]
  induction S.st with
  | nil => rfl
  | cons p r ih =>
    obtain ⟨p, c⟩ := p
    simp only [List.map_cons, getS]
    split
    · rename_i h; subst h; rfl
    · exact ih
theorem snap_den {τ : Tg} {env : List D} {ι : Pl} {S : SSt} {tm : List U} {g : Nat → Option V.Obj} (hd : Den τ env ι S tm g) {rd ids : List Nat} (hr : Rd ι rd ids) : Den τ env ι (snapS rd S) tm (updF g (snapAll g ids)) := by
  have hu := updF_snap g ids g (fun _ => .inl rfl)
  refine ⟨hd.tm, fun o so ho => ?_, fun o x hx => ?_, hd.inj, fun o ho => ?_⟩
  · rw [getS_snap] at ho
    obtain ⟨b, hb, rfl⟩ := Option.map_eq_some_iff.1 ho
    have key : ∀ c ob, ι o = some (some c) → g c.co = some ob → (ob.snap = true → b.snap = true) → ∃ ob', updF g (snapAll g ids) c.co = some ob' ∧ ob'.ty = ob.ty ∧ ob'.esz = ob.esz ∧ ob'.ag = ob.ag ∧ ob'.gen = ob.gen ∧ ob'.cells = ob.cells ∧ (ob'.snap = true → (b.snap || rd.contains o) = true) := by
      intro c ob hc hg hs
      rw [hu]
      split
      · rename_i hin
        rw [hg]
        refine ⟨_, rfl, rfl, rfl, rfl, rfl, rfl, fun _ => ?_⟩
        obtain ⟨p, c2, h1, h2, h3⟩ := hr c.co hin
        have := hd.inj p o c2 c h2 hc h3
        subst this
        simp [h1]
      · exact ⟨ob, hg, rfl, rfl, rfl, rfl, rfl, fun h => by simp [hs h]⟩
    cases hd.ob o b hb with
    | var c ob hr' hι hl hg gen ty esz ag pos snap cells one tag =>
      obtain ⟨ob', h1, h2, h3, h4, h5, h6, h7⟩ := key c ob hι hg snap
      exact .var c ob' hr' hι hl h1 (by rw [h5]; exact gen) (by rw [h2]; exact ty) (by rw [h3]; exact esz) (by rw [h4]; exact ag) pos h7 (by rw [h6]; exact cells) (by rw [h6]; exact one) tag
    | map a c ob l hr' hm hι hl hg gen esz sz snap ha cells hc tag =>
      obtain ⟨ob', h1, h2, h3, h4, h5, h6, h7⟩ := key c ob hι hg snap
      exact .map a c ob' l hr' hm hι hl h1 (by rw [h5]; exact gen) (by rw [h3]; exact esz) sz h7 ha (by rw [h6]; exact cells) hc tag
    | nil a hr' hι ha hc tag => exact .nil a hr' hι ha hc tag
    | row a c ob us hr' hι hg gen ty esz ag pos agOk snap front rows cells beh one len tag =>
      obtain ⟨ob', h1, h2, h3, h4, h5, h6, h7⟩ := key c ob hι hg snap
      exact .row a c ob' us hr' hι h1 (by rw [h5]; exact gen) (by rw [h2]; exact ty) (by rw [h3]; exact esz) (by rw [h4]; exact ag) pos agOk h7 front rows (by rw [h6]; exact cells) beh one len tag
  · obtain ⟨b, hb⟩ := hd.dom o x hx
    rw [getS_snap, hb]
    exact ⟨_, rfl⟩
  · simp only [snapS] at ho
    rw [getS_snap, hd.nxS o ho]
    rfl
theorem dats_sp {st : List (Nat × SObj)} {us : List SU} {e : Em} {r : List At × Em × List Nat} (h : dats P st us e = some r) :
    Sp P CR e r.2.1 fun env => ∀ τ ι g, DOs τ env ι st g → ∀ xs, DUs env ι us xs → ∃ l, xs.mapM (toD g 40) = some l ∧ atsD env r.1 = some (l.map (·.1)) ∧ Rd ι r.2.2 (l.flatMap (·.2)) :=
  (datL_sp (k := 6) (fun u e r h => datS_sp h) h).mono fun env _ q τ ι g hg xs hx => q τ ι g hg xs hx 40 (by omega)
theorem isPtr_dat {st : List (Nat × SObj)} {k : Nat} {u : SU} {e : Em} {r : Dat} (h : datS P st k u e = some r) (hp : isPtrS u = false) {env : List D} {ι : Pl} {x : U} (hx : DU env ι u x) : isPtr x = false := by
  cases k with
  | zero => simp [datS] at h
  | succ k =>
    cases hx with
    | ptr => simp [isPtrS] at hp
    | ep => simp [isPtrS] at hp
    | map => simp [isPtrS] at hp
    | agg hl hh ho => unfold mkAgg; split <;> rfl
    | junk => simp [datS] at h
    | undef => simp [datS] at h
    | tup => simp [datS] at h
    | _ => rfl
theorem isPtr_dats {st : List (Nat × SObj)} : ∀ {us : List SU} {e : Em} {r : List At × Em × List Nat}, dats P st us e = some r → us.any isPtrS = false → ∀ {env : List D} {ι : Pl} {xs : List U}, DUs env ι us xs → xs.any isPtr = false
  | [], e, r, h, hp, env, ι, xs, hx => by rw [DUs.inv_nil hx]; rfl
  | u :: us, e, r, h, hp, env, ι, xs, hx => by
    obtain ⟨x, q, rfl, h1, h2⟩ := DUs.inv hx
    simp only [dats, datL] at h
    split at h
    · rename_i d hd
      split at h
      · rename_i as e2 rd h3
        simp only [List.any_cons, Bool.or_eq_false_iff] at hp ⊢
        exact ⟨isPtr_dat hd hp.1 h1, isPtr_dats (r := (as, e2, rd)) h3 hp.2 h2⟩
      · simp at h
    · simp at h
theorem data_post {C : Cfg} (hk : Know P C CR) {S : SSt} {e : Em} {o : Oper} {us : List SU} {as : List At} {e1 : Em} {rd : List Nat} (hp : us.any isPtrS = false) (hd0 : dats P S.st us e = some (as, e1, rd)) {env : List D}
    (q : ∀ τ ι g, DOs τ env ι S.st g → ∀ xs, DUs env ι us xs → ∃ l, xs.mapM (toD g 40) = some l ∧ atsD env as = some (l.map (·.1)) ∧ Rd ι rd (l.flatMap (·.2)))
    {τ : Tg} {ι : Pl} {tm : List U} {st : Store} {nx id : Nat} {H : Nat → Nat} (hd : Den τ env ι S tm (getO st)) (hH : HOk ι H) (hid : getO st id = none) {n f : Nat} {ds rs : List D} {fo : Operand} {xs : List Operand} {ys caps : List U}
    (hc : callAt o = some (fo, xs)) (hf : (evalU tm fo).bind targetU = some (f, caps)) (hx : xs.mapM (evalU tm) = some ys) (hu : DUs env ι us (ys ++ caps)) (hs : C.sig f = none) (hat : atsD env as = some ds) (hcr : CR f ds rs) (hn : rs.length = n) {m : Nat} (hres : ∀ i d, rs[i]? = some d → env[m + i]? = some d)
    {call : Nat → List U → Store → Nat → Option (U × Store × Nat)} {e2 : Em} :
    ∃ cr, (∀ k, oper P (anOf C CR call) (k + 3) id o tm (getO st) nx = some cr) ∧ OperPost τ env ⟨oneS (resS m n), snapS rd S, e2, rd, rd, false⟩ tm st nx id H cr := by
  obtain ⟨l, h1, h2, h3⟩ := q τ ι (getO st) hd.ob _ hu
  rw [hat] at h2
  obtain rfl := Option.some.inj h2
  have hstep := step_call (P := P) (g := getO st) (id := id) hc hf (hk.body f _ _ hcr)
  have hio : (anOf C CR call).io f = false := by simp only [anOf, hs]
  have hior : (anOf C CR call).ior f = false := by simp only [anOf, hs]
  refine ⟨_, fun k => oper_spec anOf_orc hstep hc hf hx (by rw [isPtr_dats hd0 hp hu, hio, hior]; rfl) h1 (anOf_spec hk hs hcr), ι, H, ?_, oneS_ok (resS_ok hn hres), fun _ _ => rfl, hH, rd_ok hH hd h3, fun p hp => ?_, (fun h => by cases h), Nat.le_refl _, fun p hp => ?_⟩
  · rw [getO_setAll]
    exact snap_den hd h3
  · have hm : p.1 ∈ l.flatMap (·.2) := by
      simp only [snapAll, List.mem_filterMap] at hp
      obtain ⟨x, hx, hxp⟩ := hp
      obtain ⟨ob, _, rfl⟩ := Option.map_eq_some_iff.1 hxp
      exact hx
    exact (rd_ok hH hd h3 p.1 hm).1
  · have hm : p.1 ∈ l.flatMap (·.2) := by
      simp only [snapAll, List.mem_filterMap] at hp
      obtain ⟨x, hx, hxp⟩ := hp
      obtain ⟨ob, _, rfl⟩ := Option.map_eq_some_iff.1 hxp
      exact hx
    exact .inr (.inl (rd_ok hH hd h3 p.1 hm).2)
theorem sData_ok {C : Cfg} {call : CallF} (hk : Know P C CR) {S : SSt} {e : Em} {o : Oper} {f : Nat} {us : List SU} {r : SR} {fo : Operand} {xs : List Operand} (h : sData P S e f us = some r) (hs : C.sig f = none) (hc : callAt o = some (fo, xs))
    (hu : ∀ env τ ι tm g, Den τ env ι S tm g → ∃ ys caps, (evalU tm fo).bind targetU = some (f, caps) ∧ xs.mapM (evalU tm) = some ys ∧ DUs env ι us (ys ++ caps)) : OperSp P C CR call S e r o := by
  unfold sData at h
  split at h
  · simp at h
  · rename_i hp
    split at h
    · rename_i as e1 rd n hd0 hn
      obtain rfl := Option.some.inj h
      have hsp := dats_sp (CR := CR) hd0
      refine ⟨hsp.1.trans ⟨[.call f as n], rfl, by simp [wids, wid]⟩, fun env hb hdf => ?_⟩
      obtain ⟨b1, b2⟩ := Btw.split hsp.1 ⟨[.call f as n], rfl, by simp [wids, wid]⟩ hb
      obtain ⟨d1, q⟩ := hsp.2 env b1 hdf
      refine ⟨d1, fun τ ι tm st nx id H hd hH hid _ => ?_⟩
      obtain ⟨new, k1, _, k2⟩ := b2
      have : new = [.call f as n] := (List.append_cancel_left k1).symm
      subst this
      obtain ⟨ds, rs, g1, g2, g3, g4⟩ := k2.1
      obtain ⟨ys, caps, j1, j2, j3⟩ := hu env τ ι tm _ hd
      exact data_post hk (by simpa using hp) hd0 q hd hH hid hc j1 j2 j3 hs g1 g2 g3 g4
    · simp at h
open Classical in
theorem hok_ex {τ : Tg} {env : List D} {ι : Pl} {S : SSt} {tm : List U} {g : Nat → Option V.Obj} (hd : Den τ env ι S tm g) : ∃ H, HOk ι H := by
  refine ⟨fun x => if h : ∃ o c, ι o = some (some c) ∧ c.co = x then Classical.choose h else 0, fun o c ho => ?_⟩
  have h : ∃ o' c', ι o' = some (some c') ∧ c'.co = c.co := ⟨o, c, ho, rfl⟩
  simp only [dif_pos h]
  obtain ⟨c', h1, h2⟩ := Classical.choose_spec h
  exact hd.inj _ o c' c h1 ho h2
def OperPost0 (τ : Tg) (env : List D) (r : SR) (tm : List U) (st : Store) (nx id : Nat) (cr : CallRes) : Prop :=
  ∃ ι', Den τ env ι' r.S tm (getO (setAll st cr.res.up)) ∧ DU env ι' r.u cr.res.u ∧ (∀ x ∈ cr.res.rd, getO st x ≠ none) ∧ nx ≤ cr.nx ∧ ∀ p ∈ cr.res.up, p.1 = id ∨ getO st p.1 ≠ none ∨ (nx ≤ p.1 ∧ p.1 < cr.nx)
def OperSpD (P : Program) (C : Cfg) (CR : Nat → List D → List D → Prop) (call : CallF) (dr : Bool) (S : SSt) (e : Em) (r : SR) (o : Oper) : Prop :=
  Sp P CR e r.e fun env => ∀ τ ι tm st nx id H, Den τ env ι S tm (getO st) → HOk ι H → getO st id = none → (∀ x, nx ≤ x → getO st x = none) → ∃ cr, (∀ k, oper P (anOf C CR call) (k + 3) id o tm (getO st) nx = some cr) ∧ (dr = true → OperPost τ env r tm st nx id H cr) ∧ OperPost0 τ env r tm st nx id cr
theorem OperSp.D {P : Program} {C : Cfg} {CR : Nat → List D → List D → Prop} {call : CallF} {dr : Bool} {S : SSt} {e : Em} {r : SR} {o : Oper} (h : OperSp P C CR call S e r o) : OperSpD P C CR call dr S e r o :=
  h.mono fun env _ q τ ι tm st nx id H hd hH hid hnx => by
    obtain ⟨cr, h1, h2⟩ := q τ ι tm st nx id H hd hH hid hnx
    refine ⟨cr, h1, fun _ => h2, ?_⟩
    obtain ⟨ι', H', c2, c3, c4, c5, c6, c7, c8, c9, c10⟩ := h2
    exact ⟨ι', c2, c3, fun x hx => (c6 x hx).2, c9, c10⟩
end
end Go.Proofs.YtjofhegodknmaaaGreat.W
namespace Go.Proofs.YtjofhegodknmaaaGreat.W
open Go Go.RowKit
open V hiding At
section
variable {P : Program} {CR : Nat → List D → List D → Prop}
theorem sDataV_ok {C : Cfg} {call : CallF} (hk : Know P C CR) {S : SSt} {e : Em} {o : Oper} {g : At} {n : Nat} {us : List SU} {r : SR} {fo : Operand} {xs : List Operand} (h : sDataV P C S e g n us = some r) (hg : evalS S.tm fo = some (.at g)) (hx : xs.mapM (evalS S.tm) = some us) (hc : callAt o = some (fo, xs)) : OperSp P C CR call S e r o := by
  unfold sDataV at h
  split at h
  · simp at h
  · rename_i hp
    simp only [Bool.or_eq_true, not_or, Bool.not_eq_true, Bool.not_eq_false', Bool.not_eq_true'] at hp
    obtain ⟨hp, hv⟩ := hp
    split at h
    · rename_i as e1 rd hd0
      obtain rfl := Option.some.inj h
      have hsp := dats_sp (CR := CR) hd0
      refine ⟨hsp.1.trans ⟨[.callv C.vals g as n], rfl, by simp [wids, wid]⟩, fun env hb hdf => ?_⟩
      obtain ⟨b1, b2⟩ := Btw.split hsp.1 ⟨[.callv C.vals g as n], rfl, by simp [wids, wid]⟩ hb
      obtain ⟨d1, q⟩ := hsp.2 env b1 hdf
      refine ⟨d1, fun τ ι tm st nx id H hd hH hid _ => ?_⟩
      obtain ⟨new, k1, _, k2⟩ := b2
      have : new = [.callv C.vals g as n] := (List.append_cancel_left k1).symm
      subst this
      obtain ⟨f, caps, ds, rs, g0, gf, g1, g2, g3, g4⟩ := k2.1
      obtain ⟨y, hy, hdu⟩ := evalS_ok hd.tm hg
      obtain ⟨ys, hys, hdus⟩ := mapM_eval hd.tm hx
      cases hdu with
      | «at» ha =>
        rw [gf] at ha
        obtain rfl := Option.some.inj ha
        have hs : C.sig f = none := by
          have hv : (C.vals.all fun f => (C.sig f).isNone) = true := by
            cases e : C.vals.all fun f => (C.sig f).isNone with
            | true => rfl
            | false => exact absurd e hv
          have := List.all_eq_true.1 hv f g0
          simpa using this
        obtain ⟨l, h1, h2, h3⟩ := q τ ι (getO st) hd.ob _ hdus
        rw [g1] at h2
        obtain rfl := Option.some.inj h2
        have hstep := step_call (P := P) (g := getO st) (id := id) (n := f) (caps := caps.map .dat) hc (by rw [hy]; rfl) (hk.body f _ _ g2)
        have hio : (anOf C CR call).io f = false := by simp only [anOf, hs]
        have hior : (anOf C CR call).ior f = false := by simp only [anOf, hs]
        have hcp : ∀ l : List D, (l.map U.dat).any isPtr = false := by intro l; induction l with | nil => rfl | cons a r ih => rw [List.map_cons, List.any_cons, ih]; rfl
        have hm2 : (ys ++ caps.map U.dat).mapM (toD (getO st) 40) = some (l ++ caps.map fun d => (d, [])) := mapM_app2 h1 (toD_dats _)
        have hl2 : (l ++ caps.map fun d => (d, ([] : List Nat))).map (·.1) = l.map (·.1) ++ caps := by rw [List.map_append, map_fst_nil]
        have hr2 : (l ++ caps.map fun d => (d, ([] : List Nat))).flatMap (·.2) = l.flatMap (·.2) := by rw [List.flatMap_append, flatMap_nil2, List.append_nil]
        have hmem : ∀ p ∈ snapAll (getO st) (l.flatMap (·.2)), p.1 ∈ l.flatMap (·.2) := by
          intro p hp
          simp only [snapAll, List.mem_filterMap] at hp
          obtain ⟨x, hx, hxp⟩ := hp
          obtain ⟨ob, _, rfl⟩ := Option.map_eq_some_iff.1 hxp
          exact hx
        have hop := fun k => oper_spec (an := anOf C CR call) (k := k) (nx := nx) (rs := rs) anOf_orc hstep hc (by rw [hy]; rfl) hys (by rw [List.any_append, isPtr_dats hd0 hp hdus, hcp, hio, hior]; rfl) hm2 (by rw [hl2]; exact anOf_spec hk hs g2)
        rw [hr2] at hop
        refine ⟨_, hop, ι, H, ?_, oneS_ok (resS_ok g3 g4), fun _ _ => rfl, hH, rd_ok hH hd h3, fun p hp => (rd_ok hH hd h3 p.1 (hmem p hp)).1, (fun h => by cases h), Nat.le_refl _, fun p hp => .inr (.inl (rd_ok hH hd h3 p.1 (hmem p hp)).2)⟩
        rw [getO_setAll]
        exact snap_den hd h3
    · simp at h
def IoSp (P : Program) (C : Cfg) (CR : Nat → List D → List D → Prop) (call : CallF) : Prop :=
  ∀ (dr : Bool) (S : SSt) (e : Em) (o : Oper) (f : Nat) (us : List SU) (r : SR) (fo : Operand) (xs : List Operand), (C.clones.contains f = true ∨ (C.clones.contains f = false ∧ ∃ sg, C.sig f = some sg)) → sCall P C dr S e f us = some r → callAt o = some (fo, xs) → isBody P f = true →
    (∀ env τ ι tm g, Den τ env ι S tm g → ∃ ys caps, (evalU tm fo).bind targetU = some (f, caps) ∧ xs.mapM (evalU tm) = some ys ∧ DUs env ι us (ys ++ caps)) → OperSpD P C CR call dr S e r o
theorem sOpc_ok {C : Cfg} {call : CallF} (hk : Know P C CR) (hio : IoSp P C CR call) {dr : Bool} {S : SSt} {e : Em} {o : Oper} {r : SR} (h : sOpc P C dr S e o = some r) : OperSpD P C CR call dr S e r o := by
  unfold sOpc at h
  split at h
  · rename_i c hop
    split at h
    · rename_i fo hcal
      have hc : callAt o = some (fo, c.args.toList) := by simp only [callAt, hop, hcal]
      have cl : ∀ {f : Nat} {us : List SU}, sCall P C dr S e f us = some r → isBody P f = true → (∀ env τ ι tm g, Den τ env ι S tm g → ∃ ys caps, (evalU tm fo).bind targetU = some (f, caps) ∧ c.args.toList.mapM (evalU tm) = some ys ∧ DUs env ι us (ys ++ caps)) → OperSpD P C CR call dr S e r o := by
        intro f us h hb hu
        cases hcl : C.clones.contains f with
        | true => exact hio dr S e o f us r fo _ (.inl hcl) h hc hb hu
        | false =>
          cases hs : C.sig f with
          | none =>
            simp only [sCall, hcl, hs, Bool.false_eq_true, if_false] at h
            exact (sData_ok hk h hs hc hu).D
          | some sg => exact hio dr S e o f us r fo _ (.inr ⟨hcl, sg, hs⟩) h hc hb hu
      split at h
      · rename_i f caps us hf hus
        split at h
        · rename_i hb
          refine cl h hb fun env τ ι tm g hd => ?_
          obtain ⟨y, hy, hdu⟩ := evalS_ok hd.tm hf
          obtain ⟨ys, hys, hdus⟩ := mapM_eval hd.tm hus
          cases hdu with
          | «at» ha =>
            simp only [atD, Option.some.injEq] at ha
            subst ha
            exact ⟨ys, caps.map .dat, by rw [hy]; rfl, hys, hdus.app (DUs.consts caps)⟩
        · rename_i hb
          refine OperSp.D (OperSp.of_op ((sPrim_ok h).congr fun g id tm res hr => ?_))
          have : opStep P g id tm o = opPure P tm o := by simp only [opStep, hop, hcal]
          rw [this]
          exact hr
      · rename_i f caps us hf hus
        split at h
        · rename_i hb
          refine cl h hb fun env τ ι tm g hd => ?_
          obtain ⟨y, hy, hdu⟩ := evalS_ok hd.tm hf
          obtain ⟨ys, hys, hdus⟩ := mapM_eval hd.tm hus
          cases hdu with
          | fn hl hh => exact ⟨ys, _, by rw [hy]; rfl, hys, hdus.app ⟨hl, hh⟩⟩
        · simp at h
      · rename_i i us hf hus
        exact (sDataV_ok hk h hf hus hc).D
      · simp at h
    · exact (OperSp.of_op (sOp_ok h)).D
  · exact (OperSp.of_op (sOp_ok h)).D
def RelR (H : Nat → Nat) (a b : Option CallRes) : Prop :=
  match a, b with
  | none, none => True
  | some x, some y => (∀ z ∈ x.res.rd, H z ∈ y.res.rd) ∧ (∀ p ∈ x.res.up, H p.1 ∈ y.res.up.map (·.1)) ∧ (x.cl = true → y.cl = true)
  | _, _ => False
def RelL (H : Nat → Nat) (a b : List (Option CallRes)) : Prop := a.length = b.length ∧ ∀ (i : Nat) x y, a[i]? = some x → b[i]? = some y → RelR H x y
theorem disj_of {H : Nat → Nat} {a b x y : List Nat} (ha : ∀ z ∈ a, H z ∈ x) (hb : ∀ z ∈ b, H z ∈ y) (h : disj x y = true) : disj a b = true := by
  unfold disj at h ⊢
  rw [List.all_eq_true] at h ⊢
  intro z hz
  have h1 := h (H z) (ha z hz)
  simp only [Bool.not_eq_true', List.contains_eq_mem, decide_eq_false_iff_not] at h1 ⊢
  exact fun hzb => h1 (hb z hzb)
theorem acts_rel {H : Nat → Nat} : ∀ {a b : List (Option CallRes)} {k : Nat}, RelL H a b → ∀ p ∈ acts a k, ∃ q ∈ acts b k, q.1 = p.1 ∧ RelR H (some p.2) (some q.2)
  | [], b, k, h, p, hp => by simp [acts] at hp
  | x :: a, [], k, h, p, hp => by have := h.1; simp at this
  | x :: a, y :: b, k, h, p, hp => by
    have hrest : RelL H a b := ⟨by have := h.1; simpa using this, fun i u v hu hv => h.2 (i + 1) u v (by simpa using hu) (by simpa using hv)⟩
    have h0 := h.2 0 x y rfl rfl
    cases x with
    | none =>
      cases y with
      | some y => simp [RelR] at h0
      | none => simp only [acts] at hp ⊢; exact acts_rel hrest p hp
    | some x =>
      cases y with
      | none => simp [RelR] at h0
      | some y =>
        simp only [acts] at hp ⊢
        have keep : ∀ p ∈ acts a (k + 1), ∃ q ∈ (if quiet (some y) = true then acts b (k + 1) else (k, y) :: acts b (k + 1)), q.1 = p.1 ∧ RelR H (some p.2) (some q.2) := by
          intro p hp
          obtain ⟨q, hq, r⟩ := acts_rel hrest p hp
          refine ⟨q, ?_, r⟩
          split
          · exact hq
          · exact List.mem_cons_of_mem _ hq
        split at hp
        · exact keep p hp
        · rename_i hq
          rcases List.mem_cons.1 hp with rfl | hp
          · have : quiet (some y) = false := by
              simp only [quiet, Bool.and_eq_true, not_and, Bool.not_eq_true] at hq
              simp only [quiet, Bool.and_eq_false_iff, Bool.not_eq_false']
              by_cases e1 : x.res.up = []
              · by_cases e2 : x.res.rd = []
                · right
                  have := hq ⟨by rw [e1]; rfl, by rw [e2]; rfl⟩
                  simp at this
                  exact h0.2.2 this
                · left; right
                  cases e3 : x.res.rd with
                  | nil => exact absurd e3 e2
                  | cons z w =>
                    have := h0.1 z (by rw [e3]; simp)
                    cases e4 : y.res.rd with
                    | nil => rw [e4] at this; simp at this
                    | cons _ _ => rfl
              · left; left
                cases e3 : x.res.up with
                | nil => exact absurd e3 e1
                | cons z w =>
                  have := h0.2.1 z (by rw [e3]; simp)
                  cases e4 : y.res.up with
                  | nil => rw [e4] at this; simp at this
                  | cons _ _ => rfl
            rw [this]
            exact ⟨(k, y), by simp, rfl, h0⟩
          · exact keep p hp
theorem regionOk_rel {H : Nat → Nat} {ops : Array Oper} {a b : List (Option CallRes)} (h : RelL H a b) (hb : regionOk ops b = true) : regionOk ops a = true := by
  unfold regionOk at hb ⊢
  simp only [forceL_eq, Bool.and_eq_true] at hb ⊢
  refine ⟨hb.1, ?_⟩
  have hb := hb.2
  unfold actsOk at hb ⊢
  simp only [Bool.or_eq_true] at hb ⊢
  rcases hb with hb | hb
  · left
    rw [List.all_eq_true] at hb ⊢
    intro p hp
    obtain ⟨q, hq, _, hr⟩ := acts_rel h p hp
    have := hb q hq
    simp only [Bool.and_eq_true, Bool.not_eq_true'] at this ⊢
    refine ⟨?_, ?_⟩
    · cases e : p.2.res.up with
      | nil => rfl
      | cons z w =>
        have h1 := hr.2.1 z (by rw [e]; simp)
        have h2 : q.2.res.up = [] := by simpa using this.1
        rw [h2] at h1
        simp at h1
    · cases e : p.2.cl with
      | false => rfl
      | true => rw [hr.2.2 e] at this; simp at this
  · right
    rw [List.all_eq_true] at hb ⊢
    intro p hp
    rw [List.all_eq_true]
    intro p' hp'
    obtain ⟨q, hq, e1, hr⟩ := acts_rel h p hp
    obtain ⟨q', hq', e2, hr'⟩ := acts_rel h p' hp'
    have := List.all_eq_true.1 (hb q hq) q' hq'
    rw [e1, e2] at this
    simp only [Bool.or_eq_true] at this ⊢
    rcases this with (h1 | h1) | h1
    · exact .inl (.inl h1)
    · refine .inl (.inr ?_)
      have hup : ∀ {x y : CallRes}, RelR H (some x) (some y) → ∀ z ∈ x.res.up.map (·.1), H z ∈ y.res.up.map (·.1) := by
        intro x y hxy z hz
        obtain ⟨p, hp, rfl⟩ := List.mem_map.1 hz
        exact hxy.2.1 p hp
      unfold memApart at h1 ⊢
      simp only [Bool.and_eq_true, Bool.not_eq_true', Bool.and_eq_false_iff] at h1 ⊢
      obtain ⟨⟨⟨h2, h3⟩, h4⟩, h5⟩ := h1
      refine ⟨⟨⟨disj_of (hup hr') hr.1 h2, disj_of (hup hr') (hup hr) h3⟩, disj_of hr'.1 (hup hr) h4⟩, ?_⟩
      rcases h5 with h5 | h5
      · left
        cases e : p'.2.cl with
        | false => rfl
        | true => rw [hr'.2.2 e] at h5; simp at h5
      · right
        cases e : p.2.cl with
        | false => rfl
        | true => rw [hr.2.2 e] at h5; simp at h5
    · exact .inr h1
end
end Go.Proofs.YtjofhegodknmaaaGreat.W
namespace Go.Proofs.YtjofhegodknmaaaGreat.W
open Go Go.RowKit
open V hiding At
theorem tellA_ok {env : List D} {k : Nat} {b : Bool} (h : env[k]? = some (.bool b)) (a : At) : atD env (tellA k b a) = atD env a := by
  cases a with
  | c d => rfl
  | v i =>
    simp only [tellA]
    split
    · rename_i e
      have := Nat.eq_of_beq_eq_true e
      subst this
      simp only [atD, h]
    · rfl
theorem tellUs_eq (k : Nat) (b : Bool) : ∀ l : List SU, tellUs k b l = l.map (tellU k b)
  | [] => rfl
  | u :: r => by rw [tellUs, tellUs_eq k b r]; rfl
theorem tell_ok {env : List D} {ι : Pl} {k : Nat} {b : Bool} (h : env[k]? = some (.bool b)) {u : SU} {x : U} (hx : DU env ι u x) : DU env ι (tellU k b u) x := by
  have lists : ∀ {cs : List SU} {us : List U}, us.length = cs.length → (∀ (i : Nat) c u, cs[i]? = some c → us[i]? = some u → DU env ι (tellU k b c) u) → us.length = (tellUs k b cs).length ∧ ∀ (i : Nat) c u, (tellUs k b cs)[i]? = some c → us[i]? = some u → DU env ι c u := by
    intro cs us hl h
    rw [tellUs_eq]
    refine ⟨by simp [hl], fun i c u hc hu => ?_⟩
    rw [List.getElem?_map] at hc
    obtain ⟨c0, h0, rfl⟩ := Option.map_eq_some_iff.1 hc
    exact h i c0 u h0 hu
  induction hx with
  | «at» ha => simp only [tellU]; exact .at (by rw [tellA_ok h]; exact ha)
  | fp ha hs => simp only [tellU]; exact .fp (by rw [tellA_ok h]; exact ha) hs
  | ptr hι => simp only [tellU]; exact .ptr hι
  | ep hι hi he hz => simp only [tellU]; exact .ep hι (by rw [tellA_ok h]; exact hi) (by rw [tellA_ok h]; exact he) hz
  | own hι => simp only [tellU]; exact .own hι
  | ownN hι => simp only [tellU]; exact .ownN hι
  | sub hι hn hi hj => simp only [tellU]; exact .sub hι hn (by rw [tellA_ok h]; exact hi) (by rw [tellA_ok h]; exact hj)
  | subN hι hi hj => simp only [tellU]; exact .subN hι (by rw [tellA_ok h]; exact hi) (by rw [tellA_ok h]; exact hj)
  | map hι => simp only [tellU]; exact .map hι
  | agg hl h ho ih =>
    obtain ⟨h1, h2⟩ := lists hl ih
    simp only [tellU]
    exact .agg h1 h2 ho
  | tup hl h ih =>
    obtain ⟨h1, h2⟩ := lists hl ih
    simp only [tellU]
    exact .tup h1 h2
  | fn hl h ih =>
    obtain ⟨h1, h2⟩ := lists hl ih
    simp only [tellU]
    exact .fn h1 h2
  | undef => simp only [tellU]; exact .undef
  | junk u => simp only [tellU]; exact .junk u
theorem tell_oks {env : List D} {ι : Pl} {k : Nat} {b : Bool} (h : env[k]? = some (.bool b)) {cs : List SU} {us : List U} (hx : DUs env ι cs us) : DUs env ι (tellUs k b cs) us := by
  rw [tellUs_eq]
  refine ⟨by simp [hx.1], fun i c u hc hu => ?_⟩
  rw [List.getElem?_map] at hc
  obtain ⟨c0, h0, rfl⟩ := Option.map_eq_some_iff.1 hc
  exact tell_ok h (hx.2 i c0 u h0 hu)
theorem tell_den {τ : Tg} {env : List D} {ι : Pl} {k : Nat} {b : Bool} (h : env[k]? = some (.bool b)) {S : SSt} {tm : List U} {g : Nat → Option V.Obj} (hd : Den τ env ι S tm g) : Den τ env ι (tellS k b S) tm g := by
  have hg : ∀ o, getS (tellS k b S).st o = (getS S.st o).map fun ob => { ob with row := ob.row.map (tellA k b), cells := tellUs k b ob.cells, mp := ob.mp.map (tellA k b) } := fun o => getS_map (f := fun ob => { ob with row := ob.row.map (tellA k b), cells := tellUs k b ob.cells, mp := ob.mp.map (tellA k b) }) o
  refine ⟨tell_oks h hd.tm, fun o so ho => ?_, fun o x hx => ?_, hd.inj, fun o ho => ?_⟩
  · rw [hg] at ho
    obtain ⟨ob, hob, rfl⟩ := Option.map_eq_some_iff.1 ho
    cases hd.ob o ob hob with
    | var c ob' hr hι hl hg gen ty esz ag pos snap cells one tag => exact .var c ob' (by simp [hr]) hι hl hg gen ty esz ag pos snap (tell_oks h cells) one tag
    | map a c ob' l hr hm hι hl hg gen esz sz snap ha cells hc tag => exact .map (tellA k b a) c ob' l (by simp [hr]) (by simp [hm]) hι hl hg gen esz sz snap (by rw [tellA_ok h]; exact ha) cells (by simp only [hc]; rfl) tag
    | nil a hr hι ha hc tag => exact .nil (tellA k b a) (by simp [hr]) hι (by rw [tellA_ok h]; exact ha) (by simp only [hc]; rfl) tag
    | row a c ob' us hr hι hg gen ty esz ag pos agOk snap front rows cells beh one len tag =>
      exact .row (tellA k b a) c ob' us (by simp [hr]) hι hg gen ty esz ag pos agOk snap (by rw [tellA_ok h]; exact front) rows cells (tell_oks h beh) one len tag
  · obtain ⟨ob, hob⟩ := hd.dom o x hx
    rw [hg, hob]
    exact ⟨_, rfl⟩
  · rw [hg, hd.nxS o ho]
    rfl
theorem mask_ok {env : List D} {ι : Pl} {live : Nat} : ∀ {l : List SU} {us : List U} {i : Nat}, DUs env ι l us → DUs env ι (maskS live i l) us
  | [], us, i, h => by rw [DUs.inv_nil h]; exact DUs.nil
  | u :: r, us, i, h => by
    obtain ⟨x, q, rfl, h1, h2⟩ := DUs.inv h
    simp only [maskS]
    refine DUs.cons ?_ (mask_ok h2)
    split
    · exact h1
    · exact .junk _
theorem leadsL_mem {u : SU} {l : List SU} (h : u ∈ l) {o : Nat} (ho : o ∈ leads u) : o ∈ leadsL l := by
  induction l with
  | nil => simp at h
  | cons a r ih =>
    simp only [leadsL, List.mem_append]
    rcases List.mem_cons.1 h with rfl | h
    · exact .inl ho
    · exact .inr (ih h)
theorem DU.less {env : List D} {ι ι' : Pl} {u : SU} {x : U} (h : DU env ι u x) (hl : ∀ o ∈ leads u, ι' o = ι o) : DU env ι' u x := by
  induction h with
  | «at» h => exact .at h
  | fp h hs => exact .fp h hs
  | ptr h => exact .ptr (by rw [hl _ (by simp [leads])]; exact h)
  | ep h hi he hz => exact .ep (by rw [hl _ (by simp [leads])]; exact h) hi he hz
  | own h => exact .own (by rw [hl _ (by simp [leads])]; exact h)
  | ownN h => exact .ownN (by rw [hl _ (by simp [leads])]; exact h)
  | sub h hn hi hj => exact .sub (by rw [hl _ (by simp [leads])]; exact h) hn hi hj
  | subN h hi hj => exact .subN (by rw [hl _ (by simp [leads])]; exact h) hi hj
  | map h => exact .map (by rw [hl _ (by simp [leads])]; exact h)
  | agg hlen h ho ih => exact .agg hlen (fun i c u hc hu => ih i c u hc hu fun o ho => hl o (by simp only [leads]; exact leadsL_mem (List.mem_of_getElem? hc) ho)) ho
  | tup hlen h ih => exact .tup hlen (fun i c u hc hu => ih i c u hc hu fun o ho => hl o (by simp only [leads]; exact leadsL_mem (List.mem_of_getElem? hc) ho))
  | fn hlen h ih => exact .fn hlen (fun i c u hc hu => ih i c u hc hu fun o ho => hl o (by simp only [leads]; exact leadsL_mem (List.mem_of_getElem? hc) ho))
  | undef => exact .undef
  | junk u => exact .junk u
theorem DUs.less {env : List D} {ι ι' : Pl} {l : List SU} {xs : List U} (h : DUs env ι l xs) (hl : ∀ o ∈ leadsL l, ι' o = ι o) : DUs env ι' l xs :=
  ⟨h.1, fun i c u hc hu => (h.2 i c u hc hu).less fun o ho => hl o (leadsL_mem (List.mem_of_getElem? hc) ho)⟩
theorem getS_filter {p : Nat → Bool} : ∀ {st : List (Nat × SObj)} (o : Nat), getS (st.filter fun q => p q.1) o = if p o then getS st o else none
  | [], o => by simp [getS]
  | (q, c) :: r, o => by
    rw [List.filter_cons]
    split
    · rename_i hq
      simp only [getS]
      split
      · rename_i e; subst e; rw [if_pos hq]
      · exact getS_filter o
    · rename_i hq
      rw [getS_filter o]
      simp only [getS]
      split
      · rename_i hp
        split
        · rename_i e; subst e; exact absurd hp hq
        · rfl
      · rfl
theorem getS_mem : ∀ {st : List (Nat × SObj)} {o : Nat} {b : SObj}, getS st o = some b → (o, b) ∈ st
  | [], o, b, h => by simp [getS] at h
  | (p, c) :: r, o, b, h => by
    simp only [getS] at h
    split at h
    · rename_i e; subst e; obtain rfl := Option.some.inj h; simp
    · exact List.mem_cons_of_mem _ (getS_mem h)
theorem cut_den {τ : Tg} {env : List D} {ι : Pl} {S : SSt} {tm : List U} {g : Nat → Option V.Obj} {H : Nat → Nat} (hd : Den τ env ι S tm g) (hH : HOk ι H) : ∃ ι', Den τ env ι' (cutS S) tm g ∧ HOk ι' H := by
  unfold cutS
  simp only
  generalize reached S.st 400 (leadsL S.tm) [] = ids
  split
  · rename_i hc
    simp only [Bool.and_eq_true, List.all_eq_true] at hc
    let ι' : Pl := fun o => if ids.contains o then ι o else none
    have e1 : ∀ o, ids.contains o = true → ι' o = ι o := fun o ho => if_pos ho
    have e2 : ∀ o x, ι' o = some x → ids.contains o = true ∧ ι o = some x := fun o x hx => by
      by_cases ho : ids.contains o = true
      · exact ⟨ho, by rw [← e1 o ho]; exact hx⟩
      · have : ι' o = none := if_neg ho
        rw [this] at hx
        simp at hx
    refine ⟨ι', ⟨hd.tm.less fun o ho => e1 o (hc.1 o ho), fun o so ho => ?_, fun o x hx => ?_, fun o o' c c' h1 h2 => hd.inj o o' c c' (e2 o _ h1).2 (e2 o' _ h2).2, fun o ho => ?_⟩, fun o c hc' => hH o c (e2 o _ hc').2⟩
    · simp only at ho
      rw [getS_filter (p := fun o => ids.contains o)] at ho
      split at ho
      · rename_i hin
        have hm := hc.2 _ (getS_mem ho)
        simp only [hin, Bool.not_true, Bool.false_or] at hm
        exact (hd.ob o so ho).same (e1 o hin) (fun _ _ => rfl) fun us hu => hu.less fun p hp => e1 p (List.all_eq_true.1 hm p hp)
      · simp at ho
    · obtain ⟨h1, h2⟩ := e2 o x hx
      obtain ⟨so, hs⟩ := hd.dom o x h2
      refine ⟨so, ?_⟩
      simp only
      rw [getS_filter (p := fun o => ids.contains o), if_pos h1]
      exact hs
    · simp only
      rw [getS_filter (p := fun o => ids.contains o)]
      split
      · exact hd.nxS o ho
      · rfl
  · exact ⟨ι, hd, hH⟩
section
variable {P : Program} {CR : Nat → List D → List D → Prop}
def SetSp (P : Program) (C : Cfg) (CR : Nat → List D → List D → Prop) : Prop :=
  ∀ (S : SSt) (e : Em) (S' : SSt) (e' : Em), settle P C S e = some (S', e') → Sp P CR e e' fun env => ∀ τ ι (s : St), Den τ env ι S s.tm (getO s.st) →
    ∃ ι' Z tv cv, VwOk s Z tv cv ∧ ∀ nx, Den τ env ι' S' (viewSt s Z tv cv nx).tm (getO (viewSt s Z tv cv nx).st)
theorem ev_steps {fs : Fns} {K : Nat} (hCR : ∀ k f ds rs, k ≤ K → cev P fs k f ds = some rs → CR f ds rs) : ∀ {ls : List Stp} {k : Nat} {t : E} {env : List D} {out : Out}, k ≤ K → ev P fs k (steps ls t) env = some out →
    ∃ env' k', k' ≤ k ∧ (∃ r, env' = env ++ r) ∧ env'.length = env.length + wids ls ∧ OkS P CR env' env.length ls ∧ ev P fs k' t env' = some out
  | [], k, t, env, out, hk, h => ⟨env, k, Nat.le_refl _, ⟨[], by simp⟩, rfl, trivial, h⟩
  | s :: ls, k, t, env, out, hk, h => by
    cases k with
    | zero => simp [ev] at h
    | succ k =>
      simp only [steps, ev] at h
      split at h
      · rename_i ds hs
        obtain ⟨env', k', h1, ⟨r, h2⟩, h3, h4, h5⟩ := ev_steps hCR (ls := ls) (by omega) h
        have hw : ds.length = wid s ∧ ∀ r, Ok1 P CR (env ++ ds ++ r) env.length s := by
          cases k with
          | zero => simp [stp] at hs
          | succ k =>
            cases s with
            | op o as =>
              simp only [stp] at hs
              split at hs
              · rename_i xs hx
                obtain ⟨d, hd, rfl⟩ := Option.map_eq_some_iff.1 hs
                refine ⟨rfl, fun r => ⟨xs, d, by rw [List.append_assoc]; exact atsD_ext hx, hd, ?_⟩⟩
                rw [List.append_assoc, List.getElem?_append_right (Nat.le_refl _), Nat.sub_self]
                rfl
              · simp at hs
            | call f as n =>
              simp only [stp] at hs
              split at hs
              · rename_i xs hx
                split at hs
                · rename_i rs hc
                  split at hs
                  · rename_i hn
                    obtain rfl := Option.some.inj hs
                    refine ⟨Nat.eq_of_beq_eq_true hn, fun r => ⟨xs, rs, by rw [List.append_assoc]; exact atsD_ext hx, hCR k f xs rs (by omega) hc, Nat.eq_of_beq_eq_true hn, fun i d hi => ?_⟩⟩
                    rw [List.append_assoc, List.getElem?_append_right (by omega), Nat.add_sub_cancel_left, List.getElem?_append_left (List.getElem?_eq_some_iff.1 hi).1]
                    exact hi
                  · simp at hs
                · simp at hs
              · simp at hs
            | callv fl g as n =>
              simp only [stp] at hs
              split at hs
              · rename_i f caps xs hg hx
                split at hs
                · rename_i hfl
                  split at hs
                  · rename_i rs hc
                    split at hs
                    · rename_i hn
                      obtain rfl := Option.some.inj hs
                      refine ⟨Nat.eq_of_beq_eq_true hn, fun r => ⟨f, caps, xs, rs, by simpa using hfl, by rw [List.append_assoc]; exact atD_ext hg, by rw [List.append_assoc]; exact atsD_ext hx, hCR k f _ rs (by omega) hc, Nat.eq_of_beq_eq_true hn, fun i d hi => ?_⟩⟩
                      rw [List.append_assoc, List.getElem?_append_right (by omega), Nat.add_sub_cancel_left, List.getElem?_append_left (List.getElem?_eq_some_iff.1 hi).1]
                      exact hi
                    · simp at hs
                  · simp at hs
                · simp at hs
              · simp at hs
        refine ⟨env', k', by omega, ⟨ds ++ r, by rw [h2, List.append_assoc]⟩, by rw [h3, List.length_append, hw.1]; simp only [wids]; omega, ⟨by rw [h2]; exact hw.2 r, ?_⟩, h5⟩
        rw [List.length_append, hw.1] at h4
        exact h4
      · simp at h
end
end Go.Proofs.YtjofhegodknmaaaGreat.W
