/- W, 39: arguments of a call that is handed objects. To: Y, 2: what operations come to. -/
import Derived.Test.YtjofhegodknmaaaGreatGf
import Derived.Test.YtjofhegodknmaaaGreatGc
set_option linter.unusedSimpArgs false
set_option linter.unusedVariables false
namespace Go.Proofs.YtjofhegodknmaaaGreat.W
open Go Go.RowKit
open V hiding At
theorem getS_untag {S : SSt} (o : Nat) : getS (untag S).st o = (getS S.st o).map fun b => { b with tag := none } := by
  simp only [untag]
  exact getS_map (f := fun b => { b with tag := none }) o
theorem plain_dat {env : List D} {ι : Pl} {u : SU} {y : U} (h : plainS u = true) (hu : DU env ι u y) : ∃ d, y = .dat d := by
  cases hu with
  | «at» ha => exact ⟨_, rfl⟩
  | fp ha hs => exact ⟨_, rfl⟩
  | agg hl hh ho =>
    rename_i cs us
    simp only [plainS] at h
    obtain ⟨as, has⟩ := Option.isSome_iff_exists.1 h
    have key : ∀ {cs : List SU} {us : List U} {as : List At}, atoms cs = some as → us.length = cs.length → (∀ (i : Nat) c u, cs[i]? = some c → us[i]? = some u → DU env ι c u) → ∃ ds, us.mapM asDat = some ds := by
      intro cs
      induction cs with
      | nil => intro us as _ hl _; exact ⟨[], by rw [List.eq_nil_of_length_eq_zero hl]; rfl⟩
      | cons c r ih =>
        intro us as has hl hh
        cases us with
        | nil => simp at hl
        | cons u q =>
          have hc : ∃ a, c = .at a ∧ ∃ as', atoms r = some as' := by
            cases c with
            | «at» a =>
              simp only [atoms] at has
              obtain ⟨as', h1, h2⟩ := Option.map_eq_some_iff.1 has
              exact ⟨a, rfl, as', h1⟩
            | _ => simp [atoms] at has
          obtain ⟨a, rfl, as', has'⟩ := hc
          have hu := hh 0 _ _ rfl rfl
          cases hu with
          | «at» ha =>
            obtain ⟨ds, hds⟩ := ih has' (by simpa using hl) fun i c u hc hu => hh (i + 1) c u (by simpa using hc) (by simpa using hu)
            exact ⟨_ :: ds, by rw [List.mapM_cons, hds]; rfl⟩
    obtain ⟨ds, hds⟩ := key has hl hh
    exact ⟨.agg ds, by unfold mkAgg; rw [hds]⟩
  | _ => simp [plainS] at h
theorem notPtr {env : List D} {ι : Pl} {u : SU} {y : U} (h1 : isPtrS u = false) (h2 : lostS u = false) (hu : DU env ι u y) : isPtr y = false := by
  cases hu with
  | ptr h => simp [isPtrS] at h1
  | ep h => simp [isPtrS] at h1
  | map h => simp [isPtrS] at h1
  | junk => simp [lostS] at h2
  | agg hl hh ho => unfold mkAgg; split <;> rfl
  | _ => rfl
def arg1 (io : Bool) : SU → SU → Bool
  | .map _, _ => true
  | .at _, u => if io then plainS u || isFnS u else !isPtrS u && !lostS u
  | .ptr _ _, _ => true
  | .own _, _ => io
  | _, _ => false
theorem argsOk_get {io : Bool} : ∀ {a b : List SU}, argsOk io a b = true → ∀ (i : Nat) J u, a[i]? = some J → b[i]? = some u → arg1 io J u = true
  | [], b, h, i, J, u, h1, h2 => by simp at h1
  | J0 :: a, [], h, i, J, u, h1, h2 => by simp at h2
  | J0 :: a, u0 :: b, h, i, J, u, h1, h2 => by
    have hh : arg1 io J0 u0 = true ∧ argsOk io a b = true := by
      cases J0 <;> simp only [argsOk, Bool.and_eq_true] at h <;> first | exact h | exact ⟨rfl, h⟩ | (simp at h)
    cases i with
    | zero =>
      simp only [List.getElem?_cons_zero, Option.some.injEq] at h1 h2
      subst h1; subst h2
      exact hh.1
    | succ i => exact argsOk_get hh.2 i J u (by simpa using h1) (by simpa using h2)
theorem arg_ok {io : Bool} {x : Ma} {env ds : List D} {ι ι0 : Pl} {g : Nat → Option V.Obj} {J u : SU} {y : U} (ha : arg1 io J u = true) (hu : DU env ι u y) (hv : VR x ds ι ι0 g J u y) :
    ∃ z ids, argIo g io y = some (z, ids) ∧ DU ds ι0 J z ∧ Rd ι x.fz ids ∧ ((∀ a, J ≠ .at a) → z = y) := by
  cases J with
  | «at» a =>
    cases hc : isConv (.at a) u with
    | false =>
      have h1 := hv.1 hc
      cases h1 with
      | «at» had =>
        rename_i d
        refine ⟨.dat d, [], ?_, .at had, Rd.nil, fun h => absurd rfl (h a)⟩
        cases io <;> simp [argIo, isPtr, isFn, toD]
    | true =>
      obtain ⟨d, ids, h1, h2, h3⟩ := hv.2 hc
      cases io with
      | true =>
        simp only [arg1, if_true, Bool.or_eq_true] at ha
        rcases ha with ha | ha
        · obtain ⟨d', rfl⟩ := plain_dat ha hu
          simp only [toD, Option.some.injEq, Prod.mk.injEq] at h1
          obtain ⟨rfl, rfl⟩ := h1
          exact ⟨.dat d', [], by simp [argIo, isFn], h2, Rd.nil, fun h => absurd rfl (h a)⟩
        · cases hu with
          | fn hl hh =>
            refine ⟨.dat d, ids, ?_, h2, h3, fun h => absurd rfl (h a)⟩
            simp [argIo, isPtr, isFn, h1]
          | _ => simp [isFnS] at ha
      | false =>
        simp only [arg1, Bool.false_eq_true, if_false, Bool.and_eq_true, Bool.not_eq_true'] at ha
        refine ⟨.dat d, ids, ?_, h2, h3, fun h => absurd rfl (h a)⟩
        simp [argIo, notPtr ha.1 ha.2 hu, h1]
  | ptr o p =>
    have h1 := hv.1 (by cases u <;> rfl)
    cases h1 with
    | ptr ho => exact ⟨_, [], by simp [argIo, isPtr], .ptr ho, Rd.nil, fun _ => rfl⟩
  | map o =>
    have h1 := hv.1 (by cases u <;> rfl)
    cases h1 with
    | map ho => exact ⟨_, [], by simp [argIo, isPtr], .map ho, Rd.nil, fun _ => rfl⟩
  | own o =>
    have h1 := hv.1 (by cases u <;> rfl)
    simp only [arg1] at ha
    exact ⟨y, [], by cases h1 <;> simp [argIo, ha, isFn], h1, Rd.nil, fun _ => rfl⟩
  | _ => simp [arg1] at ha
theorem Rd.join {ι : Pl} {a x y : List Nat} (h : Rd ι a x) (h' : Rd ι a y) : Rd ι a (x ++ y) := fun z hz => (List.mem_append.1 hz).elim (h z) (h' z)
theorem args_list {io : Bool} {x : Ma} {env ds : List D} {ι ι0 : Pl} {g : Nat → Option V.Obj} : ∀ {a b : List SU} {ys : List U}, (∀ (i : Nat) J u, a[i]? = some J → b[i]? = some u → arg1 io J u = true) → a.length = b.length → DUs env ι b ys → (∀ (i : Nat) J u y, a[i]? = some J → b[i]? = some u → ys[i]? = some y → VR x ds ι ι0 g J u y) →
    ∃ vs, ys.mapM (argIo g io) = some vs ∧ DUs ds ι0 a (vs.map (·.1)) ∧ Rd ι x.fz (vs.flatMap (·.2)) ∧ ∀ (i : Nat) J y z, a[i]? = some J → ys[i]? = some y → (vs.map (·.1))[i]? = some z → (∀ c, J ≠ .at c) → z = y
  | [], [], ys, _, _, hy, _ => by
    rw [DUs.inv_nil hy]
    exact ⟨[], rfl, DUs.nil, Rd.nil, fun i J y z h => by simp at h⟩
  | J :: a, u :: b, ys, h1, hl, hy, h2 => by
    obtain ⟨y, r, rfl, hy1, hy2⟩ := DUs.inv hy
    obtain ⟨z, ids, k1, k2, k3, k4⟩ := arg_ok (h1 0 J u rfl rfl) hy1 (h2 0 J u y rfl rfl rfl)
    obtain ⟨vs, j1, j2, j3, j4⟩ := args_list (fun i J' u' a1 a2 => h1 (i + 1) J' u' (by simpa using a1) (by simpa using a2)) (by simpa using hl) hy2 fun i J' u' y' a1 a2 a3 => h2 (i + 1) J' u' y' (by simpa using a1) (by simpa using a2) (by simpa using a3)
    refine ⟨(z, ids) :: vs, by rw [List.mapM_cons, k1, j1]; rfl, DUs.cons k2 j2, (by rw [List.flatMap_cons]; exact k3.join j3), fun i J' y' z' a1 a2 a3 => ?_⟩
    cases i with
    | zero =>
      simp only [List.map_cons, List.getElem?_cons_zero, Option.some.injEq] at a1 a2 a3
      subst a1; subst a2; subst a3
      exact k4
    | succ i => exact j4 i J' y' z' (by simpa using a1) (by simpa using a2) (by simpa using a3)
  | [], _ :: _, _, _, hl, _, _ => by simp at hl
  | _ :: _, [], _, _, hl, _, _ => by simp at hl
def plOf (x : Ma) (ι : Pl) : Pl := fun o => match x.ob.lookup o with
  | none => none
  | some none => some none
  | some (some q) => ι q
def tgOf (S0 : SSt) (ι0 : Pl) : Tg := fun k => match tagIn S0.st k with
  | some o => match ι0 o, getS S0.st o with
    | some (some c), some so => some (c.co, c.cg, if so.row.isSome then c.l.length + c.k else 0)
    | _, _ => none
  | none => none
theorem noConv_get : ∀ {a b : List SU}, noConv a b = true → ∀ (i : Nat) J u, a[i]? = some J → b[i]? = some u → isConv J u = false
  | [], b, h, i, J, u, h1, h2 => by simp at h1
  | J0 :: a, [], h, i, J, u, h1, h2 => by simp at h2
  | J0 :: a, u0 :: b, h, i, J, u, h1, h2 => by
    have hh : isConv J0 u0 = false ∧ noConv a b = true := by
      cases J0 <;> cases u0 <;> simp only [noConv] at h <;> first | exact ⟨rfl, h⟩ | (simp at h)
    cases i with
    | zero =>
      simp only [List.getElem?_cons_zero, Option.some.injEq] at h1 h2
      subst h1; subst h2
      exact hh.1
    | succ i => exact noConv_get hh.2 i J u (by simpa using h1) (by simpa using h2)
def ObOk (S0 S : SSt) (x : Ma) : Prop := ∀ o p, x.ob.lookup o = some p → ∃ a, getS S0.st o = some a ∧ ∀ q, p = some q → ∃ b, getS S.st q = some b ∧ noConv a.cells b.cells = true ∧ a.row.isSome = b.row.isSome ∧ q ∉ x.fz
theorem tag_ok {S0 : SSt} {ι0 : Pl} {o : Nat} {so : SObj} (ho : getS S0.st o = some so) {q : Option Nat} (h : (match q with | some k => tagIn S0.st k == some o | none => true) = true) {k : Nat} (hk : q = some k) : tgOf S0 ι0 k = match ι0 o with
    | some (some c) => some (c.co, c.cg, if so.row.isSome then c.l.length + c.k else 0)
    | _ => none := by
  subst hk
  simp only [beq_iff_eq] at h
  simp only [tgOf, h, ho]
  cases ι0 o with
  | none => rfl
  | some x => cases x <;> rfl
section
variable {P : Program} {CR : Nat → List D → List D → Prop}
theorem args_sp {io : Bool} {S0 S : SSt} {n0 : Nat} {us : List SU} {e : Em} {as : List At} {x : Ma} (h : argsFit P io (untag S0) n0 S us e = some (as, x)) (hs : shapeOk S0 = true) (hob : ObOk S0 S x) (hn0 : NxOk S0) :
    (∀ o o' q, x.ob.lookup o = some (some q) → x.ob.lookup o' = some (some q) → o = o') ∧ (∀ o jo, getS S0.st o = some jo → ∃ p, x.ob.lookup o = some p) ∧
    Sp P CR e x.e fun env => ∀ τ ι tm g, Den τ env ι S tm g → ∀ ys, DUs env ι us ys → ∃ ds vs, atsD env as = some ds ∧ ds.length = n0 ∧ ys.mapM (argIo g io) = some vs ∧ Rd ι x.fz (vs.flatMap (·.2)) ∧
      (∀ (i : Nat) J y z, S0.tm[i]? = some J → ys[i]? = some y → (vs.map (·.1))[i]? = some z → (∀ c, J ≠ .at c) → z = y) ∧
      ∀ g1, (∀ o p c, x.ob.lookup o = some (some p) → ι p = some (some c) → g1 c.co = g c.co) → Den (tgOf S0 (plOf x ι)) ds (plOf x ι) S0 (vs.map (·.1)) g1 := by
  unfold argsFit at h
  split at h
  · rename_i hargs
    split at h
    · rename_i x1 hvals
      split at h
      · rename_i xf hobjs
        split at h
        · rename_i hall
          obtain ⟨l, hpar, he⟩ := Option.map_eq_some_iff.1 h
          simp only [Prod.mk.injEq] at he
          obtain ⟨rfl, rfl⟩ := he
          obtain ⟨l1, n1, _, s1⟩ := vals_ok (cv := true) (fun x J u x' h => val_ok (CR := CR) (Nat.le_refl 6) h) hvals
          obtain ⟨l2, s2⟩ := objs_ok (CR := CR) hobjs
          simp only [Ma.all, Bool.and_eq_true, List.all_eq_true] at hall
          obtain ⟨⟨ha1, ha2⟩, ha3⟩ := hall
          have hinj : ∀ o o' q, xf.ob.lookup o = some (some q) → xf.ob.lookup o' = some (some q) → o = o' := (l1.trans l2).j fun o o' q hq => by simp at hq
          simp only [shapeOk, Bool.and_eq_true, List.all_eq_true] at hs
          obtain ⟨⟨⟨⟨hs1, hs2⟩, hs3⟩, hs4⟩, hs5⟩ := hs
          have hgo : ∀ o jo, getS S0.st o = some jo → getS (untag S0).st o = some { jo with tag := none } := fun o jo ho => by rw [getS_untag, ho]; rfl
          have hlk : ∀ o jo, getS S0.st o = some jo → ∃ p, xf.ob.lookup o = some p := fun o jo ho => by
            have hsome := ha2 _ (getS_mem (hgo o jo ho))
            simp only [Bool.and_eq_true] at hsome
            exact Option.isSome_iff_exists.1 hsome.1
          refine ⟨hinj, hlk, Sp.then s1 s2 fun env q1 q2 τ ι tm g hd ys hys => ?_⟩
          obtain ⟨u1, u2⟩ := q1 τ ι _ hd.ob ys hys
          obtain ⟨w1, w2⟩ := q2 τ ι _ hd.ob
          have hok : AsOk env xf := w1 (u1 fun i b hb => by simp at hb)
          obtain ⟨vals, v1, v2, v3⟩ := params_vals hok hpar
          have hx : Cx 0 xf env vals ι (plOf xf ι) := by
            refine ⟨fun i b hb => ?_, fun i hi => by omega, fun o p ho => ?_⟩
            · have hr := ha1 _ (mem_lookup hb)
              simp only [Bool.and_eq_true] at hr
              have h2 : i < 0 + n0 := Nat.le_of_ble_eq_true hr.2
              simp only [atD]
              exact v3 i b (by rw [show 0 + i = i by omega]; exact hb) (by omega)
            · simp only [plOf, ho]
              cases p <;> rfl
          have hvt : ∀ (t : Nat) a b u, (untag S0).tm[t]? = some a → us[t]? = some b → ys[t]? = some u → VR xf vals ι (plOf xf ι) g a b u := fun t a b u h1 h2 h3 => (u2 _ _ (hx.anti l2) t a b u h1 h2 h3).mono l2
          obtain ⟨vs, k1, k2, k3, k4⟩ := args_list (argsOk_get hargs) n1 hys hvt
          refine ⟨vals, vs, v1, v2, k1, k3, k4, fun g1 hg1 => ⟨k2, fun o jo ho => ?_, fun o y hy => ?_, fun o o' c c' h1 h2 hcc => ?_, hn0⟩⟩
          · obtain ⟨p, hp⟩ := hlk o jo ho
            obtain ⟨jo', j1, j2⟩ := w2 _ _ hx o p hp (by simp)
            rw [hgo o jo ho] at j1
            obtain rfl := Option.some.inj j1
            have hιo := hx.o o p hp
            have hmem := getS_mem ho
            have hsh := hs2 _ hmem
            simp only [Bool.and_eq_true, Bool.not_eq_true'] at hsh
            obtain ⟨⟨sh1, sh2⟩, sh3⟩ := hsh
            cases p with
            | none =>
              obtain ⟨a, f1, f2, f3, f4⟩ := j2
              exact .nil a f1 hιo f2 f3 fun k hk => by rw [tag_ok ho sh3 hk, hιo]
            | some q =>
              obtain ⟨so, g3, t1, t2, t3, t4, t5, g4⟩ := j2
              simp only at hιo t1 t2 t4 t5 g4
              obtain ⟨a0, b1, b2⟩ := hob o _ hp
              rw [ho] at b1
              obtain rfl := Option.some.inj b1
              obtain ⟨so', b3, b4, b5, b6⟩ := b2 q rfl
              rw [g3] at b3
              obtain rfl := Option.some.inj b3
              rcases g4 with ⟨a, b, r1, r2, r3, r4, r5⟩ | ⟨r1, r2, r3, r4, r6⟩ | ⟨a, b, r1, r2, r3, r4, r5, r6, r7, r8⟩
              rotate_left 2
              · cases hd.ob q so g3 with
                | var c ob hr hι hl hg gen ty esz ag pos => omega
                | nil a' hr => rw [r2] at hr; simp at hr
                | row a' c' ob' us' hr => rw [r2] at hr; simp at hr
                | map a' c ob l' hr hm hι hl hg gen esz sz snap hat cells hc tag =>
                  rw [r4] at hm
                  obtain rfl := Option.some.inj hm
                  refine .map a c ob l' r1 r3 (by rw [hιo, hι]) hl (by rw [hg1 o q c hp hι]; exact hg) gen esz (by rw [t2]; exact sz) (fun e => t5 (snap e)) (by rw [r8]; exact hat) cells r7 fun k hk => ?_
                  rw [tag_ok ho sh3 hk, hιo, hι, r1]
                  simp
              · cases hd.ob q so g3 with
                | var c ob hr => rw [r2] at hr; simp at hr
                | map a9 c9 ob9 l9 hr => rw [r2] at hr; simp at hr
                | nil a' hr hι hat hc tag =>
                  rw [r2] at hr
                  obtain rfl := Option.some.inj hr
                  exact .nil a r1 (by rw [hιo, hι]) (by rw [r5]; exact hat) r4 fun k hk => by rw [tag_ok ho sh3 hk, hιo, hι]
                | row a' c ob us hr hι hg gen ty esz ag pos agOk snap front rows cells beh one len tag =>
                  rw [r2] at hr
                  obtain rfl := Option.some.inj hr
                  have hus : us = [] := DUs.inv_nil (by rw [r3] at beh; exact beh)
                  subst hus
                  refine .row a c ob [] r1 (by rw [hιo, hι]) (by rw [hg1 o q c hp hι]; exact hg) gen (by rw [t1]; exact ty) (by rw [t2]; exact esz) (by rw [t4]; exact ag) (by rw [t2]; exact pos) (by rw [t4, t2]; exact agOk) (fun e => t5 (snap e)) (by rw [r5]; exact front) (by rw [t2, t4]; exact rows) cells (by rw [r4]; exact DUs.nil) (by simp) (by rw [t2]; exact len) fun k hk => ?_
                  rw [tag_ok ho sh3 hk, hιo, hι, r1]
                  simp
              · cases hd.ob q so g3 with
                | nil a' hr => rw [r2] at hr; simp at hr
                | row a' c' ob' us' hr => rw [r2] at hr; simp at hr
                | map a' c' ob' l' hr hm => rw [r6] at hm; simp at hm
                | var c ob hr hι hl hg gen ty esz ag pos snap cells one tag =>
                  refine .var c ob r1 (by rw [hιo, hι]) hl (by rw [hg1 o q c hp hι]; exact hg) gen (by rw [t1]; exact ty) (by rw [t2]; exact esz) (by rw [t4]; exact ag) (by rw [t2]; exact pos) (fun e => t5 (snap e)) ⟨by rw [cells.1, r3], fun j a u ha hu => ?_⟩ one fun k hk => ?_
                  · obtain ⟨b, hb⟩ : ∃ b, so.cells[j]? = some b := ⟨_, List.getElem?_eq_getElem (by rw [← r3]; exact (List.getElem?_eq_some_iff.1 ha).1)⟩
                    exact (r4 _ cells j a b u ha hb hu).1 (noConv_get b4 j a b ha hb)
                  · rw [tag_ok ho sh3 hk, hιo, hι, r1]
                    simp
          · cases hp : xf.ob.lookup o with
            | none => simp [plOf, hp] at hy
            | some p =>
              obtain ⟨a, ha, _⟩ := hob o p hp
              exact ⟨a, ha⟩
          · cases hp : xf.ob.lookup o with
            | none => simp [plOf, hp] at h1
            | some p =>
              cases hp' : xf.ob.lookup o' with
              | none => simp [plOf, hp'] at h2
              | some p' =>
                cases p with
                | none => simp [plOf, hp] at h1
                | some q =>
                  cases p' with
                  | none => simp [plOf, hp'] at h2
                  | some q' =>
                    simp only [plOf, hp, hp'] at h1 h2
                    obtain rfl := hd.inj q q' c c' h1 h2 hcc
                    exact hinj o o' q hp hp'
        · simp at h
      · simp at h
    · simp at h
  · simp at h
end
end Go.Proofs.YtjofhegodknmaaaGreat.W
namespace Go.Proofs.YtjofhegodknmaaaGreat.W
open Go Go.RowKit
open V hiding At
theorem nodup_get : ∀ {st : List (Nat × SObj)} {o : Nat} {so : SObj}, nodupB (st.map (·.1)) = true → (o, so) ∈ st → getS st o = some so
  | [], o, so, h, hm => by simp at hm
  | (p, b) :: r, o, so, h, hm => by
    simp only [List.map_cons, nodupB, Bool.and_eq_true, Bool.not_eq_true'] at h
    simp only [getS]
    rcases List.mem_cons.1 hm with e | hm
    · simp only [Prod.mk.injEq] at e
      obtain ⟨rfl, rfl⟩ := e
      rw [if_pos rfl]
    · have hne : p ≠ o := fun e => by
        subst e
        have : r.map (·.1) |>.contains p := by
          simp only [List.contains_iff_mem, List.mem_map]
          exact ⟨_, hm, rfl⟩
        rw [h.1] at this
        simp at this
      rw [if_neg hne]
      exact nodup_get h.2 hm
theorem refsL_dats : ∀ (ds : List D), refsL (ds.map U.dat) = []
  | [] => rfl
  | d :: r => by simp only [List.map_cons, refsL, refs, List.nil_append]; exact refsL_dats r
theorem refsL_app : ∀ (a b : List U), refsL (a ++ b) = refsL a ++ refsL b
  | [], b => rfl
  | u :: r, b => by simp only [List.cons_append, refsL, List.append_assoc, refsL_app r b]
theorem refs_simple {env : List D} {ι : Pl} {u : SU} {y : U} (hs : simpleS u = true) (h : DU env ι u y) : (refs y).length ≤ 1 ∧ (∀ x ∈ refs y, ∃ o c, ι o = some (some c) ∧ c.co = x) ∧ ∀ b o c, isRef b o u = true → ι o = some (some c) → c.co ∈ refs y := by
  have one : ∀ {o : Nat} {c : Loc}, ι o = some (some c) → refs y = [c.co] → (refs y).length ≤ 1 ∧ (∀ x ∈ refs y, ∃ o c, ι o = some (some c) ∧ c.co = x) := fun {o c} h e => by
    rw [e]
    exact ⟨by simp, fun x hx => by simp only [List.mem_singleton] at hx; exact ⟨o, c, h, hx.symm⟩⟩
  cases h with
  | «at» h => exact ⟨by simp [refs], fun x hx => by simp [refs] at hx, fun b o c ho => by simp [isRef] at ho⟩
  | ptr h =>
    obtain ⟨h1, h2⟩ := one h (by simp [refs])
    refine ⟨h1, h2, fun b o c ho hc => ?_⟩
    simp only [isRef, Bool.and_eq_true] at ho
    obtain rfl := Nat.eq_of_beq_eq_true ho.1
    rw [h] at hc
    obtain rfl := Option.some.inj (Option.some.inj hc)
    simp [refs]
  | map h =>
    obtain ⟨h1, h2⟩ := one h (by simp [refs])
    refine ⟨h1, h2, fun b o c ho hc => ?_⟩
    simp only [isRef, Bool.and_eq_true] at ho
    obtain rfl := Nat.eq_of_beq_eq_true ho.1
    rw [h] at hc
    obtain rfl := Option.some.inj (Option.some.inj hc)
    simp [refs]
  | own h =>
    obtain ⟨h1, h2⟩ := one h (by simp [refs])
    refine ⟨h1, h2, fun b o c ho hc => ?_⟩
    simp only [isRef, Bool.and_eq_true] at ho
    obtain rfl := Nat.eq_of_beq_eq_true ho.1
    rw [h] at hc
    obtain rfl := Option.some.inj (Option.some.inj hc)
    simp [refs]
  | ownN h =>
    refine ⟨by simp [refs], fun x hx => by simp [refs] at hx, fun b o c ho hc => ?_⟩
    simp only [isRef, Bool.and_eq_true] at ho
    obtain rfl := Nat.eq_of_beq_eq_true ho.1
    rw [h] at hc
    simp at hc
  | _ => simp [simpleS] at hs
theorem refsL_simple {env : List D} {ι : Pl} : ∀ {cs : List SU} {ys : List U}, (∀ u ∈ cs, simpleS u = true) → DUs env ι cs ys → (refsL ys).length ≤ cs.length ∧ (∀ x ∈ refsL ys, ∃ o c, ι o = some (some c) ∧ c.co = x) ∧ ∀ b o c u, u ∈ cs → isRef b o u = true → ι o = some (some c) → c.co ∈ refsL ys
  | [], ys, hs, h => by
    rw [DUs.inv_nil h]
    exact ⟨by simp [refsL], fun x hx => by simp [refsL] at hx, fun b o c u hu => by simp at hu⟩
  | u :: r, ys, hs, h => by
    obtain ⟨y, q, rfl, h1, h2⟩ := DUs.inv h
    obtain ⟨a1, a2, a3⟩ := refs_simple (hs u (by simp)) h1
    obtain ⟨b1, b2, b3⟩ := refsL_simple (fun u hu => hs u (by simp [hu])) h2
    refine ⟨by simp only [refsL, List.length_append, List.length_cons]; omega, fun x hx => ?_, fun b o c u' hu ho hc => ?_⟩
    · simp only [refsL, List.mem_append] at hx
      exact hx.elim (a2 x) (b2 x)
    · simp only [refsL, List.mem_append]
      rcases List.mem_cons.1 hu with rfl | hu
      · exact .inl (a3 b o c ho hc)
      · exact .inr (b3 b o c u' hu ho hc)
theorem refs_obj {τ : Tg} {env : List D} {ι : Pl} {g : Nat → Option V.Obj} {o : Nat} {so : SObj} (hs : ∀ u ∈ so.cells, simpleS u = true) (h : DO τ env ι g o so) {c : Loc} (hc : ι o = some (some c)) :
    ∃ ob, g c.co = some ob ∧ (refsL ob.cells).length ≤ so.cells.length ∧ (∀ x ∈ refsL ob.cells, ∃ o c, ι o = some (some c) ∧ c.co = x) ∧ ∀ b o c u, u ∈ so.cells → isRef b o u = true → ι o = some (some c) → c.co ∈ refsL ob.cells := by
  cases h with
  | nil a hr hι => rw [hι] at hc; simp at hc
  | map a c' ob l hr hm hι hl hg gen esz sz snap ha cells hcn =>
    rw [hι] at hc
    obtain rfl := Option.some.inj (Option.some.inj hc)
    exact ⟨ob, hg, by rw [cells, refsL_dats]; simp, fun x hx => by rw [cells, refsL_dats] at hx; simp at hx, fun b o c u hu => by rw [hcn] at hu; simp at hu⟩
  | var c' ob hr hι hl hg gen ty esz ag pos snap cells =>
    rw [hι] at hc
    obtain rfl := Option.some.inj (Option.some.inj hc)
    obtain ⟨a1, a2, a3⟩ := refsL_simple hs cells
    exact ⟨ob, hg, a1, a2, a3⟩
  | row a c' ob us hr hι hg gen ty esz ag pos agOk snap front rows cells beh =>
    rw [hι] at hc
    obtain rfl := Option.some.inj (Option.some.inj hc)
    obtain ⟨a1, a2, a3⟩ := refsL_simple hs beh
    refine ⟨ob, hg, ?_, ?_, ?_⟩ <;> rw [cells, refsL_app, refsL_dats, List.nil_append]
    · exact a1
    · exact a2
    · exact a3
def plc (ι : Pl) (o : Nat) : Option Nat := match ι o with | some (some c) => some c.co | _ => none
theorem plc_some {ι : Pl} {o x : Nat} (h : plc ι o = some x) : ∃ c, ι o = some (some c) ∧ c.co = x := by
  unfold plc at h
  split at h
  · rename_i c hc
    obtain rfl := Option.some.inj h
    exact ⟨c, hc, rfl⟩
  · simp at h
theorem wt_width {τ : Tg} {env : List D} {ι : Pl} {g : Nat → Option V.Obj} : ∀ {l : List (Nat × SObj)}, (∀ p ∈ l, (∀ u ∈ p.2.cells, simpleS u = true) ∧ DO τ env ι g p.1 p.2) → wt g [] ((l.map (·.1)).filterMap (plc ι)) ≤ widthS l
  | [], h => by simp [wt, widthS]
  | p :: r, h => by
    have ih := wt_width (l := r) fun q hq => h q (by simp [hq])
    simp only [List.map_cons, List.filterMap_cons, widthS]
    split
    · omega
    · rename_i x hx
      obtain ⟨c, hc, rfl⟩ := plc_some hx
      obtain ⟨ob, h1, h2, _⟩ := refs_obj (h p (by simp)).1 (h p (by simp)).2 hc
      simp only [wt, List.contains_nil, Bool.false_eq_true, if_false, deg, h1]
      omega
theorem reach_den {S0 : SSt} (hs : shapeOk S0 = true) {τ : Tg} {ds : List D} {ι : Pl} {zs : List U} {g : Nat → Option V.Obj} (hd : Den τ ds ι S0 zs g) :
    closed g (reach g 400 (refsL zs) []) = true ∧ (refsL zs).all (fun x => (reach g 400 (refsL zs) []).contains x) = true ∧ (∀ y ∈ reach g 400 (refsL zs) [], ∃ o c, ι o = some (some c) ∧ c.co = y) ∧ ∀ o c, ι o = some (some c) → c.co ∈ reach g 400 (refsL zs) [] := by
  simp only [shapeOk, Bool.and_eq_true, List.all_eq_true] at hs
  obtain ⟨⟨⟨⟨hs1, hs2⟩, hs3⟩, hs4⟩, hs5⟩ := hs
  have hcells : ∀ o so, getS S0.st o = some so → ∀ u ∈ so.cells, simpleS u = true := fun o so ho u hu => by
    have := hs2 _ (getS_mem ho)
    exact this.1.1 u hu
  let T : List Nat := (S0.st.map (·.1)).filterMap (plc ι)
  have hTi : ∀ o c, ι o = some (some c) → c.co ∈ T := fun o c hc => by
    obtain ⟨so, hso⟩ := hd.dom o _ hc
    exact List.mem_filterMap.2 ⟨o, List.mem_map.2 ⟨_, getS_mem hso, rfl⟩, by simp [plc, hc]⟩
  have hTe : ∀ x ∈ T, ∃ o c, ι o = some (some c) ∧ c.co = x := fun x hx => by
    obtain ⟨o, _, h⟩ := List.mem_filterMap.1 hx
    obtain ⟨c, h1, h2⟩ := plc_some h
    exact ⟨o, c, h1, h2⟩
  have hob : ∀ o c, ι o = some (some c) → ∃ so ob, getS S0.st o = some so ∧ g c.co = some ob ∧ (∀ x ∈ refsL ob.cells, ∃ o c, ι o = some (some c) ∧ c.co = x) ∧ ∀ b o c u, u ∈ so.cells → isRef b o u = true → ι o = some (some c) → c.co ∈ refsL ob.cells := fun o c hc => by
    obtain ⟨so, hso⟩ := hd.dom o _ hc
    obtain ⟨ob, h1, _, h2, h3⟩ := refs_obj (hcells o so hso) (hd.ob o so hso) hc
    exact ⟨so, ob, hso, h1, h2, h3⟩
  have hT : ∀ o ∈ T, ∀ ob, g o = some ob → ∀ x ∈ refsL ob.cells, x ∈ T := fun y hy ob hg x hx => by
    obtain ⟨o, c, h1, rfl⟩ := hTe y hy
    obtain ⟨so, ob', _, h2, h3, _⟩ := hob o c h1
    rw [hg] at h2
    obtain rfl := Option.some.inj h2
    obtain ⟨o', c', k1, rfl⟩ := h3 x hx
    exact hTi o' c' k1
  obtain ⟨z1, z2, z3⟩ := refsL_simple hs1 hd.tm
  have hw : wt g [] T ≤ widthS S0.st := wt_width fun p hp => by
    have hg := nodup_get hs4 hp
    exact ⟨hcells p.1 p.2 hg, hd.ob p.1 p.2 hg⟩
  have hlt : S0.tm.length + widthS S0.st < 400 := Nat.le_of_ble_eq_true hs3
  obtain ⟨r1, r2, r3, r4⟩ := reach_ok hT 400 (refsL zs) [] (fun x hx => by
    obtain ⟨o, c, k1, rfl⟩ := z2 x hx
    exact hTi o c k1) (fun x hx => by simp at hx) (fun o ho => by simp at ho) (by omega)
  refine ⟨?_, ?_, fun y hy => hTe y (r3 y hy), fun o c hc => ?_⟩
  · simp only [closed, List.all_eq_true]
    intro y hy
    split
    · rename_i ob hg
      simp only [List.all_eq_true, List.contains_iff_mem]
      exact fun x hx => r4 y hy ob hg x hx
    · rfl
  · simp only [List.all_eq_true, List.contains_iff_mem]
    exact r2
  · obtain ⟨so, hso⟩ := hd.dom o _ hc
    have := hs5 _ (getS_mem hso)
    simp only [Bool.or_eq_true, List.any_eq_true, Bool.and_eq_true] at this
    rcases this with ⟨u, hu, ho⟩ | ⟨q, hq, ⟨_, ⟨u, hu, ho⟩⟩, w, hw, ho'⟩
    · exact r2 _ (z3 _ o c u hu ho hc)
    · -- one further on
      have hgq := nodup_get hs4 hq
      have hdq := hd.ob q.1 q.2 hgq
      have hcell : ∃ c1, ι q.1 = some (some c1) := by
        cases hdq with
        | var c1 ob hr hι => exact ⟨c1, hι⟩
        | map a c1 ob l hr hm hι => exact ⟨c1, hι⟩
        | row a c1 ob us hr hι => exact ⟨c1, hι⟩
        | nil a hr hι ha hcn => rw [hcn] at hw; simp at hw
      obtain ⟨c1, hc1⟩ := hcell
      obtain ⟨so1, ob1, k1, k2, k3, k4⟩ := hob q.1 c1 hc1
      rw [hgq] at k1
      obtain rfl := Option.some.inj k1
      exact r4 _ (r2 _ (z3 _ q.1 c1 u hu ho hc1)) ob1 k2 _ (k4 _ o c w hw ho' hc)
end Go.Proofs.YtjofhegodknmaaaGreat.W
namespace Go.Proofs.YtjofhegodknmaaaGreat.W
open Go Go.RowKit
open V hiding At
theorem getS_or : ∀ (a b : List (Nat × SObj)) (o : Nat), getS (a ++ b) o = (getS a o).or (getS b o)
  | [], b, o => rfl
  | (p, c) :: r, b, o => by
    simp only [List.cons_append, getS]
    split
    · rfl
    · exact getS_or r b o
theorem getS_filt {q : List Nat} {w : SObj → SObj} : ∀ (l : List (Nat × SObj)) (o : Nat), getS ((l.filter fun p => !q.contains p.1).map fun p => (p.1, w p.2)) o = if o ∈ q then none else (getS l o).map w
  | [], o => by simp [getS]
  | (p, c) :: r, o => by
    have ih := getS_filt (q := q) (w := w) r o
    simp only [List.filter_cons]
    cases hc : q.contains p with
    | true =>
      simp only [Bool.not_true, Bool.false_eq_true, if_false, getS]
      rw [ih]
      by_cases e : p = o
      · subst e
        have : p ∈ q := by simpa using hc
        rw [if_pos this, if_pos this]
      · rw [if_neg e]
    | false =>
      simp only [Bool.not_false, if_true, List.map_cons, getS]
      by_cases e : p = o
      · subst e
        have : p ∉ q := by simpa using hc
        rw [if_pos rfl, if_pos rfl, if_neg this]
        rfl
      · rw [if_neg e, if_neg e, ih]
theorem getS_ren {f : Nat → Nat} {F : Nat → SObj → SObj} : ∀ {l : List (Nat × SObj)}, (∀ a b, a ∈ l.map (·.1) → b ∈ l.map (·.1) → f a = f b → a = b) → ∀ {j : Nat} {jo : SObj}, getS l j = some jo → getS (l.map fun p => (f p.1, F p.1 p.2)) (f j) = some (F j jo)
  | [], h, j, jo, hj => by simp [getS] at hj
  | (p, c) :: r, h, j, jo, hj => by
    simp only [getS] at hj
    simp only [List.map_cons, getS]
    split at hj
    · rename_i e
      subst e
      obtain rfl := Option.some.inj hj
      rw [if_pos rfl]
    · rename_i e
      have hm : j ∈ (r.map (·.1)) := List.mem_map.2 ⟨_, getS_mem hj, rfl⟩
      rw [if_neg fun e2 => e (h p j (by simp) (by simp only [List.map_cons, List.mem_cons]; exact .inr hm) e2)]
      exact getS_ren (fun a b ha hb => h a b (by simp only [List.map_cons, List.mem_cons]; exact .inr ha) (by simp only [List.map_cons, List.mem_cons]; exact .inr hb)) hj
theorem getS_key : ∀ {l : List (Nat × SObj)} {j : Nat}, j ∈ l.map (·.1) → ∃ jo, getS l j = some jo
  | [], j, h => by simp at h
  | (p, c) :: r, j, h => by
    simp only [getS]
    by_cases e : p = j
    · exact ⟨c, if_pos e⟩
    · rw [if_neg e]
      simp only [List.map_cons, List.mem_cons] at h
      exact getS_key (h.elim (fun x => absurd x.symm e) id)
theorem getS_isKey {l : List (Nat × SObj)} {j : Nat} {jo : SObj} (h : getS l j = some jo) : j ∈ l.map (·.1) := List.mem_map.2 ⟨_, getS_mem h, rfl⟩
theorem getS_renE {f : Nat → Nat} {F : Nat → SObj → SObj} {l : List (Nat × SObj)} (h : ∀ a b, a ∈ l.map (·.1) → b ∈ l.map (·.1) → f a = f b → a = b) {o : Nat} {b : SObj} (ho : getS (l.map fun p => (f p.1, F p.1 p.2)) o = some b) : ∃ j jo, getS l j = some jo ∧ f j = o ∧ b = F j jo := by
  have hk := getS_isKey ho
  simp only [List.map_map, List.mem_map, Function.comp] at hk
  obtain ⟨p, hp, rfl⟩ := hk
  obtain ⟨jo, hjo⟩ := getS_key (List.mem_map.2 ⟨p, hp, rfl⟩ : p.1 ∈ l.map (·.1))
  rw [getS_ren h hjo] at ho
  exact ⟨p.1, jo, hjo, rfl, (Option.some.inj ho).symm⟩
theorem nodupB_inj : ∀ {l : List (Nat × Nat × Nat)}, nodupB (keptL l) = true → ∀ {o o' p j j'}, (o, p, j) ∈ l → (o', p, j') ∈ l → o = o'
  | [], h, o, o', p, j, j', h1, h2 => by simp at h1
  | (a, b, c) :: r, h, o, o', p, j, j', h1, h2 => by
    simp only [keptL, List.map_cons, nodupB, Bool.and_eq_true, Bool.not_eq_true'] at h
    have hnot : ∀ a' c', (a', b, c') ∉ r := fun a' c' hm => by
      have : (r.map (·.2.1)).contains b = true := by
        simp only [List.contains_iff_mem, List.mem_map]
        exact ⟨_, hm, rfl⟩
      rw [h.1] at this
      simp at this
    rcases List.mem_cons.1 h1 with e | h1
    · rcases List.mem_cons.1 h2 with e2 | h2
      · simp only [Prod.mk.injEq] at e e2
        rw [e.1, e2.1]
      · simp only [Prod.mk.injEq] at e
        rw [e.2.1] at h2
        exact absurd h2 (hnot _ _)
    · rcases List.mem_cons.1 h2 with e2 | h2
      · simp only [Prod.mk.injEq] at e2
        rw [e2.2.1] at h1
        exact absurd h1 (hnot _ _)
      · exact nodupB_inj h.2 h1 h2
theorem nodupB_lookup : ∀ {l : List (Nat × Nat × Nat)}, nodupB (l.map (·.1)) = true → ∀ {o q}, (o, q) ∈ l → l.lookup o = some q
  | [], h, o, q, h1 => by simp at h1
  | (a, b) :: r, h, o, q, h1 => by
    simp only [List.map_cons, nodupB, Bool.and_eq_true, Bool.not_eq_true'] at h
    rw [lookup_cons]
    rcases List.mem_cons.1 h1 with e | h2
    · simp only [Prod.mk.injEq] at e
      rw [if_pos e.1, e.2]
    · have : o ≠ a := fun e => by
        subst e
        have : (r.map (·.1)).contains o = true := by
          simp only [List.contains_iff_mem, List.mem_map]
          exact ⟨_, h2, rfl⟩
        rw [h.1] at this
        simp at this
      rw [if_neg this]
      exact nodupB_lookup h.2 h2
def Tied (ι ι2 : Pl) (S1 J : SSt) (o p : Nat) : Prop := ∃ jo so, getS J.st o = some jo ∧ getS S1.st p = some so ∧ jo.row.isSome = so.row.isSome ∧
  (∀ c, ι p = some (some c) → ∃ c', ι2 o = some (some c') ∧ c'.co = c.co ∧ c'.cg = c.cg ∧ (so.row.isSome = true → c'.l.length + c'.k = c.l.length + c.k)) ∧ (ι p = some none → ι2 o = some none)
open Classical in
theorem after_den {S1 J : SSt} {τ τ' : Tg} {env rs : List D} {ι ι2 : Pl} {tm zs : List U} {g1 g2 G : Nat → Option V.Obj} (hd : Den τ env ι S1 tm g1) (hj : Den τ' rs ι2 J zs g2) {k : Nat} (hrs : ∀ i d, rs[i]? = some d → env[k + i]? = some d)
    {t : List (Nat × Nat × Nat)} {bound : List Nat} (hfst : nodupB (t.map (·.1)) = true) (hsnd : nodupB (keptL t) = true) (hkb : ∀ p ∈ keptL t, p ∈ bound) (htie : ∀ o p j, (o, p, j) ∈ t → Tied ι ι2 S1 J o p)
    (hout : ∀ x, g2 x ≠ none → (∃ p c, p ∈ bound ∧ ι p = some (some c) ∧ c.co = x) ∨ g1 x = none) (hG2 : ∀ x, g2 x ≠ none → G x = g2 x) (hG1 : ∀ x, g2 x = none → G x = g1 x) (nres : Nat) :
    ∃ ι3, Den τ env ι3 (after nres k J t bound S1).2.1 tm G ∧ DUs env ι3 (after nres k J t bound S1).1 (zs.take nres) ∧ (∀ j jo, getS J.st j = some jo → ι3 (ren S1.nx t j) = ι2 j) ∧
      ∀ o x, ι3 o = some x → (∃ j jo, getS J.st j = some jo ∧ o = ren S1.nx t j ∧ ι2 j = some x) ∨ (o ∉ bound ∧ ι o = some x) := by
  have hlt : ∀ p so, getS S1.st p = some so → p < S1.nx := fun p so h => by
    rcases Nat.lt_or_ge p S1.nx with h1 | h1
    · exact h1
    · rw [hd.nxS p h1] at h; simp at h
  have hltJ : ∀ p so, getS J.st p = some so → p < J.nx := fun p so h => by
    rcases Nat.lt_or_ge p J.nx with h1 | h1
    · exact h1
    · rw [hj.nxS p h1] at h; simp at h
  have hren : ∀ j, (∃ p q, (j, p, q) ∈ t ∧ t.lookup j = some (p, q) ∧ ren S1.nx t j = p) ∨ (t.lookup j = none ∧ ren S1.nx t j = S1.nx + j) := fun j => by
    cases h : t.lookup j with
    | none => exact .inr ⟨rfl, by simp [ren, h]⟩
    | some x => exact .inl ⟨x.1, x.2, mem_lookup h, by simp, by simp [ren, h]⟩
  have hinj : ∀ a b, ren S1.nx t a = ren S1.nx t b → a = b := fun a b h => by
    rcases hren a with ⟨p, q, h1, _, h2⟩ | ⟨_, h2⟩
    · rcases hren b with ⟨p', q', h1', _, h2'⟩ | ⟨_, h2'⟩
      · rw [h2, h2'] at h
        subst h
        exact nodupB_inj hsnd h1 h1'
      · obtain ⟨jo, so, _, k2, _⟩ := htie _ _ _ h1
        have := hlt _ _ k2
        omega
    · rcases hren b with ⟨p', q', h1', _, h2'⟩ | ⟨_, h2'⟩
      · obtain ⟨jo, so, _, k2, _⟩ := htie _ _ _ h1'
        have := hlt _ _ k2
        omega
      · omega
  have hother : ∀ j o x, o ∉ bound → ι o = some x → ren S1.nx t j ≠ o := fun j o x ho hx he => by
    rcases hren j with ⟨p, q, h1, _, h2⟩ | ⟨_, h2⟩
    · rw [h2] at he
      subst he
      exact ho (hkb _ (List.mem_map.2 ⟨_, h1, rfl⟩))
    · obtain ⟨so, hso⟩ := hd.dom o x hx
      have := hlt _ _ hso
      omega
  let ι3 : Pl := fun o => if h : ∃ j, (∃ jo, getS J.st j = some jo) ∧ ren S1.nx t j = o then ι2 (Classical.choose h) else if o ∈ bound then none else ι o
  have i1 : ∀ j jo, getS J.st j = some jo → ι3 (ren S1.nx t j) = ι2 j := fun j jo hjo => by
    have hx : ∃ j', (∃ jo, getS J.st j' = some jo) ∧ ren S1.nx t j' = ren S1.nx t j := ⟨j, ⟨jo, hjo⟩, rfl⟩
    simp only [ι3, dif_pos hx]
    rw [hinj _ _ (Classical.choose_spec hx).2]
  have i2 : ∀ o x, ι3 o = some x → (∃ j jo, getS J.st j = some jo ∧ o = ren S1.nx t j ∧ ι2 j = some x) ∨ (o ∉ bound ∧ ι o = some x) := fun o x hx => by
    by_cases h : ∃ j, (∃ jo, getS J.st j = some jo) ∧ ren S1.nx t j = o
    · simp only [ι3, dif_pos h] at hx
      obtain ⟨⟨jo, hjo⟩, h2⟩ := Classical.choose_spec h
      exact .inl ⟨_, jo, hjo, h2.symm, hx⟩
    · simp only [ι3, dif_neg h] at hx
      split at hx
      · simp at hx
      · rename_i hb
        exact .inr ⟨hb, hx⟩
  have i3 : ∀ o x, o ∉ bound → ι o = some x → ι3 o = some x := fun o x ho hx => by
    have hne : ¬ ∃ j, (∃ jo, getS J.st j = some jo) ∧ ren S1.nx t j = o := fun ⟨j, _, he⟩ => hother j o x ho hx he
    simp only [ι3, dif_neg hne, if_neg ho]
    exact hx
  have i3n : ∀ o so, o ∉ bound → getS S1.st o = some so → ι3 o = ι o := fun o so ho hso => by
    have hne : ¬ ∃ j, (∃ jo, getS J.st j = some jo) ∧ ren S1.nx t j = o := fun ⟨j, _, he⟩ => by
      rcases hren j with ⟨p, q, h1, _, h2⟩ | ⟨_, h2⟩
      · rw [h2] at he
        subst he
        exact ho (hkb _ (List.mem_map.2 ⟨_, h1, rfl⟩))
      · have := hlt _ _ hso
        omega
    simp only [ι3, dif_neg hne, if_neg ho]
  have hι2 : ∀ o x, ι2 o = some x → ι3 (ren S1.nx t o) = some x := fun o x hx => by
    obtain ⟨jo, hjo⟩ := hj.dom o x hx
    rw [i1 o jo hjo]
    exact hx
  let kept := keptL t
  let d := bound.filter fun p => !kept.contains p
  let v := kept.filter fun p => !rowS S1.st p
  have hw : Wo d kept v ι ι3 := by
    intro p x hx hpd
    by_cases hb : p ∈ bound
    · have hk : p ∈ kept := by
        apply Classical.byContradiction
        intro hn
        exact hpd (List.mem_filter.2 ⟨hb, by simpa using hn⟩)
      obtain ⟨⟨o, p', q⟩, hm, he⟩ := List.mem_map.1 hk
      simp only at he
      subst he
      obtain ⟨jo, so, k1, k2, k3, k4, k5⟩ := htie _ _ _ hm
      have hlk := nodupB_lookup hfst hm
      have hr : ren S1.nx t o = p' := by simp [ren, hlk]
      have h3 := i1 o jo k1
      rw [hr] at h3
      cases x with
      | none => exact h3.trans (k5 hx)
      | some c =>
        obtain ⟨c', e1, e2, e3, e4⟩ := k4 c hx
        refine ⟨c', h3.trans e1, e2, e3, fun hv => e4 ?_, fun hr => absurd hk hr⟩
        cases hrow : so.row.isSome with
        | true => rfl
        | false =>
          refine absurd (List.mem_filter.2 ⟨hk, ?_⟩) hv
          simp [rowS, k2, hrow]
    · have h3 := i3 p x hb hx
      cases x with
      | none => exact h3
      | some c => exact ⟨c, h3, rfl, rfl, fun _ => rfl, fun _ => rfl⟩
  have hgo : ∀ o, getS (after nres k J t bound S1).2.1.st o = (getS (J.st.map fun p => (ren S1.nx t p.1, backO k S1.nx t S1 p.1 p.2)) o).or (if o ∈ bound then none else (getS S1.st o).map fun b => { b with cells := wornL d kept v b.cells }) := fun o => by
    simp only [after]
    rw [getS_or]
    congr 1
    exact getS_filt (w := fun b => { b with cells := wornL d kept v b.cells }) S1.st o
  have hinj2 : ∀ a b, a ∈ J.st.map (·.1) → b ∈ J.st.map (·.1) → ren S1.nx t a = ren S1.nx t b → a = b := fun a b _ _ h => hinj a b h
  refine ⟨ι3, ⟨worn_oks hw hd.tm, fun o so ho => ?_, fun o x hx => ?_, fun o o' c c' h1 h2 hcc => ?_, fun o ho => ?_⟩, ?_, i1, i2⟩
  · rw [hgo] at ho
    cases hA : getS (J.st.map fun p => (ren S1.nx t p.1, backO k S1.nx t S1 p.1 p.2)) o with
    | some b =>
      rw [hA] at ho
      simp only [Option.some_or, Option.some.injEq] at ho
      subst ho
      obtain ⟨j, jo, hjo, rfl, rfl⟩ := getS_renE (F := fun a b => backO k S1.nx t S1 a b) hinj2 hA
      have hι3 := i1 j jo hjo
      have htag : ∀ kk, (backO k S1.nx t S1 j jo).tag = some kk → ∃ p so, Tied ι ι2 S1 J j p ∧ getS S1.st p = some so ∧ so.tag = some kk := fun kk hk => by
        simp only [backO] at hk
        split at hk
        · rename_i q hq
          obtain ⟨so, h1, h2⟩ := Option.bind_eq_some_iff.1 hk
          exact ⟨q.1, so, htie _ _ _ (mem_lookup hq), h1, h2⟩
        · simp at hk
      cases hj.ob j jo hjo with
      | var c ob hr hι hl hg gen ty esz ag pos snap cells one tag =>
        refine .var c ob (by simp [backO, liftO, hr]) (hι3.trans hι) hl (by rw [hG2 _ (by rw [hg]; simp)]; exact hg) gen ty esz ag pos snap (liftU_oks hrs hι2 cells) one fun kk hk => ?_
        obtain ⟨p, so, ⟨jo', so', t1, t2, t3, t4, t5⟩, h1, h2⟩ := htag kk hk
        rw [hjo] at t1
        obtain rfl := Option.some.inj t1
        rw [h1] at t2
        obtain rfl := Option.some.inj t2
        cases hd.ob p so h1 with
        | var c0 ob0 hr0 hι0 hl0 hg0 gen0 ty0 esz0 ag0 pos0 snap0 cells0 one0 tag0 =>
          obtain ⟨c', e1, e2, e3, _⟩ := t4 c0 hι0
          rw [hι] at e1
          obtain rfl := Option.some.inj (Option.some.inj e1)
          rw [e2, e3]
          exact tag0 kk h2
        | map a0 c0 ob0 l0 hr0 hm0 hι0 hl0 hg0 gen0 esz0 sz0 snap0 ha0 cells0 hc0 tag0 =>
          obtain ⟨c', e1, e2, e3, _⟩ := t4 c0 hι0
          rw [hι] at e1
          obtain rfl := Option.some.inj (Option.some.inj e1)
          rw [e2, e3]
          exact tag0 kk h2
        | nil a hr0 => rw [hr, hr0] at t3; simp at t3
        | row a c0 ob0 us0 hr0 => rw [hr, hr0] at t3; simp at t3
      | map a c ob l hr hm hι hl hg gen esz sz snap ha cells hc tag =>
        refine .map (liftA k a) c ob l (by simp [backO, liftO, hr]) (by simp [backO, liftO, hm]) (hι3.trans hι) hl (by rw [hG2 _ (by rw [hg]; simp)]; exact hg) gen esz sz snap (liftA_ok hrs ha) cells (by simp [backO, liftO, hc]) fun kk hk => ?_
        obtain ⟨p, so, ⟨jo', so', t1, t2, t3, t4, t5⟩, h1, h2⟩ := htag kk hk
        rw [hjo] at t1
        obtain rfl := Option.some.inj t1
        rw [h1] at t2
        obtain rfl := Option.some.inj t2
        have fin : ∀ c0, ι p = some (some c0) → τ kk = some (c0.co, c0.cg, 0) → τ kk = some (c.co, c.cg, 0) := fun c0 e0 e9 => by
          obtain ⟨c', e1, e2, e3, _⟩ := t4 c0 e0
          rw [hι] at e1
          obtain rfl := Option.some.inj (Option.some.inj e1)
          rw [e2, e3]
          exact e9
        cases hd.ob p so h1 with
        | var c0 ob0 hr0 hι0 hl0 hg0 gen0 ty0 esz0 ag0 pos0 snap0 cells0 one0 tag0 => exact fin c0 hι0 (tag0 kk h2)
        | map a0 c0 ob0 l0 hr0 hm0 hι0 hl0 hg0 gen0 esz0 sz0 snap0 ha0 cells0 hc0 tag0 => exact fin c0 hι0 (tag0 kk h2)
        | nil a hr0 => rw [hr, hr0] at t3; simp at t3
        | row a c0 ob0 us0 hr0 => rw [hr, hr0] at t3; simp at t3
      | nil a hr hι ha hc tag =>
        refine .nil (liftA k a) (by simp [backO, liftO, hr]) (hι3.trans hι) (liftA_ok hrs ha) (by simp [backO, liftO, hc]) fun kk hk => ?_
        obtain ⟨p, so, ⟨jo', so', t1, t2, t3, t4, t5⟩, h1, h2⟩ := htag kk hk
        rw [hjo] at t1
        obtain rfl := Option.some.inj t1
        rw [h1] at t2
        obtain rfl := Option.some.inj t2
        cases hd.ob p so h1 with
        | var c0 ob0 hr0 => rw [hr, hr0] at t3; simp at t3
        | map a9 c9 ob9 l9 hr0 => rw [hr, hr0] at t3; simp at t3
        | nil a0 hr0 hι0 ha0 hc0 tag0 => exact tag0 kk h2
        | row a0 c0 ob0 us0 hr0 hι0 =>
          obtain ⟨c', e1, _⟩ := t4 c0 hι0
          rw [hι] at e1
          simp at e1
      | row a c ob us hr hι hg gen ty esz ag pos agOk snap front rows cells beh one len tag =>
        refine .row (liftA k a) c ob us (by simp [backO, liftO, hr]) (hι3.trans hι) (by rw [hG2 _ (by rw [hg]; simp)]; exact hg) gen ty esz ag pos agOk snap (front.elim (fun h => .inl (liftA_ok hrs h)) fun h => .inr ⟨liftA_ok hrs h.1, h.2⟩) rows cells (liftU_oks hrs hι2 beh) one len fun kk hk => ?_
        obtain ⟨p, so, ⟨jo', so', t1, t2, t3, t4, t5⟩, h1, h2⟩ := htag kk hk
        rw [hjo] at t1
        obtain rfl := Option.some.inj t1
        rw [h1] at t2
        obtain rfl := Option.some.inj t2
        cases hd.ob p so h1 with
        | var c0 ob0 hr0 => rw [hr, hr0] at t3; simp at t3
        | map a9 c9 ob9 l9 hr0 => rw [hr, hr0] at t3; simp at t3
        | nil a0 hr0 hι0 => rw [t5 hι0] at hι; simp at hι
        | row a0 c0 ob0 us0 hr0 hι0 hg0 gen0 ty0 esz0 ag0 pos0 agOk0 snap0 front0 rows0 cells0 beh0 one0 len0 tag0 =>
          obtain ⟨c', e1, e2, e3, e4⟩ := t4 c0 hι0
          rw [hι] at e1
          obtain rfl := Option.some.inj (Option.some.inj e1)
          rw [e2, e3, e4 (by rw [hr0]; rfl)]
          exact tag0 kk h2
    | none =>
      rw [hA] at ho
      simp only [Option.none_or] at ho
      split at ho
      · simp at ho
      · rename_i hb
        obtain ⟨so0, h1, rfl⟩ := Option.map_eq_some_iff.1 ho
        refine (hd.ob o so0 h1).move (i3n o so0 hb h1) (fun c hc => hG1 _ ?_) ⟨rfl, rfl, rfl, rfl, rfl, rfl, rfl⟩ (fun us hus => worn_oks hw hus) (fun he => by simp [he, wornL])
        apply Classical.byContradiction
        intro hne
        rcases hout _ hne with ⟨p, c0, k1, k2, k3⟩ | h2
        · obtain rfl := hd.inj p o c0 c k2 hc k3
          exact hb k1
        · obtain ⟨_, ob, _, h3, _⟩ := hd.at hc
          rw [h3] at h2
          simp at h2
  · rw [hgo]
    rcases i2 o x hx with ⟨j, jo, hjo, rfl, _⟩ | ⟨hb, hx2⟩
    · rw [getS_ren (F := fun a b => backO k S1.nx t S1 a b) hinj2 hjo]
      exact ⟨_, rfl⟩
    · obtain ⟨so, hso⟩ := hd.dom o x hx2
      rw [if_neg hb, hso]
      cases getS (J.st.map fun p => (ren S1.nx t p.1, backO k S1.nx t S1 p.1 p.2)) o with
      | none => exact ⟨_, rfl⟩
      | some b => exact ⟨b, rfl⟩
  · have cross : ∀ {j o c c'}, ι2 j = some (some c) → o ∉ bound → ι o = some (some c') → c.co = c'.co → False := fun {j o c c'} h1 hb h2 he => by
      obtain ⟨_, ob, _, h3, _⟩ := hj.at h1
      rcases hout c.co (by rw [h3]; simp) with ⟨p, c0, k1, k2, k3⟩ | h4
      · obtain rfl := hd.inj p o c0 c' k2 h2 (k3.trans he)
        exact hb k1
      · obtain ⟨_, ob', _, h5, _⟩ := hd.at h2
        rw [← he, h4] at h5
        simp at h5
    rcases i2 o _ h1 with ⟨j, jo, hjo, rfl, e1⟩ | ⟨hb, e1⟩
    · rcases i2 o' _ h2 with ⟨j', jo', hjo', rfl, e2⟩ | ⟨hb', e2⟩
      · rw [hj.inj j j' c c' e1 e2 hcc]
      · exact absurd (cross e1 hb' e2 hcc) id
    · rcases i2 o' _ h2 with ⟨j', jo', hjo', rfl, e2⟩ | ⟨hb', e2⟩
      · exact absurd (cross e2 hb e1 hcc.symm) id
      · exact hd.inj o o' c c' e1 e2 hcc
  · have ho' : S1.nx + J.nx + 1 ≤ o := ho
    rw [hgo]
    cases hA : getS (J.st.map fun p => (ren S1.nx t p.1, backO k S1.nx t S1 p.1 p.2)) o with
    | some b =>
      obtain ⟨j, jo, hjo, rfl, _⟩ := getS_renE (F := fun a b => backO k S1.nx t S1 a b) hinj2 hA
      have hjl := hltJ _ _ hjo
      rcases hren j with ⟨p, q, h1, _, h2⟩ | ⟨_, h2⟩
      · obtain ⟨_, so, _, k2, _⟩ := htie _ _ _ h1
        have := hlt _ _ k2
        omega
      · omega
    | none =>
      rw [hd.nxS o (by omega)]
      simp
  · simp only [after]
    refine liftU_oks hrs hι2 ⟨by simp [hj.tm.1], fun i c u hc hu => ?_⟩
    rw [List.getElem?_take] at hc hu
    split at hc
    · rename_i hi
      rw [if_pos hi] at hu
      exact hj.tm.2 i c u hc hu
    · simp at hc
end Go.Proofs.YtjofhegodknmaaaGreat.W
namespace Go.Proofs.YtjofhegodknmaaaGreat.W
open Go Go.RowKit
open V hiding At
section
variable {P : Program} {CR : Nat → List D → List D → Prop}
theorem clone_sp {C : Cfg} {call : CallF} (hcall : ∀ f us st nx, C.clones.contains f = true → call f us st nx = cloneOf C.clones f us st nx) (hC : ∀ f, C.clones.contains f = true → ∃ sg, C.sig f = some sg ∧ sg.io = false) :
    ∀ (dr : Bool) (S : SSt) (e : Em) (o : Oper) (f : Nat) (us : List SU) (r : SR) (fo : Operand) (xs : List Operand), C.clones.contains f = true → sCall P C dr S e f us = some r → callAt o = some (fo, xs) → isBody P f = true →
      (∀ env τ ι tm g, Den τ env ι S tm g → ∃ ys caps, (evalU tm fo).bind targetU = some (f, caps) ∧ xs.mapM (evalU tm) = some ys ∧ DUs env ι us (ys ++ caps)) → OperSpD P C CR call dr S e r o := by
  intro dr S e o f us r fo xs hcl h hc hbody hu
  simp only [sCall, hcl, if_true] at h
  unfold sClone at h
  split at h
  · rename_i u
    obtain ⟨⟨q, ob, a⟩, hm, rfl⟩ := Option.map_eq_some_iff.1 h
    obtain ⟨rfl, ho, hmp, hz, hr⟩ := mapS_inv hm
    refine OperSp.D (Sp.refl fun env _ τ ι tm st nx id H hd hH hid hnx => ?_)
    obtain ⟨ys0, caps, j1, j2, j3⟩ := hu env τ ι tm _ hd
    obtain ⟨y, rest, hy, hdy, hrest⟩ := DUs.inv j3
    rw [DUs.inv_nil hrest] at hy
    obtain ⟨c, ob', l, rfl, k1, k2, k3, k4, k5, k6, k7, k8, _, _⟩ := map_inv hd ho hmp hz hr hdy
    obtain ⟨sg, hsig, hsio⟩ := hC f hcl
    have hio : (anOf C CR call).io f = false := by simp only [anOf, hsig, hsio]
    have hne : c.co ≠ nx := fun e => by rw [e, hnx nx (Nat.le_refl _)] at k3; simp at k3
    let ob2 : V.Obj := { ob' with gen := 0, snap := false }
    have hids : reach (updF (getO st) []) 400 (refsL [U.map c.co c.cg]) [] = [c.co] := by
      have hz : updF (getO st) [] = getO st := rfl
      rw [hz]
      simp only [refsL, refs, List.append_nil]
      show reach (getO st) (399 + 1) _ _ = _
      simp only [reach, List.contains_nil, Bool.false_eq_true, if_false, k3, k7, refsL_dats, List.append_nil]
    have hst : subStore (updF (getO st) []) [c.co] = [(c.co, ob')] := by
      have hz : updF (getO st) [] = getO st := rfl
      simp [subStore, hz, k3]
    have hcc : call f [U.map c.co c.cg] [(c.co, ob')] nx = some (.map nx 0, setO [(c.co, ob')] nx ob2, nx + 1) := by
      rw [hcall f _ _ _ hcl]
      have hany : C.clones.any (Nat.beq f) = true := by
        obtain h1 := List.contains_iff_mem.1 hcl
        exact List.any_eq_true.2 ⟨f, h1, Nat.beq_refl f⟩
      simp only [cloneOf, hany, if_true, getO, k4, k5, and_self, ob2]
    have hso : setO [(c.co, ob')] nx ob2 = [(c.co, ob'), (nx, ob2)] := by simp [setO, hne]
    have hstep := step_call (P := P) (g := getO st) (id := id) hc j1 hbody
    have hop : ∀ k, oper P (anOf C CR call) (k + 3) id o tm (getO st) nx = some ⟨⟨.map nx 0, [c.co] ++ [], [] ++ asUp (setO [(c.co, ob')] nx ob2)⟩, nx + 1, true⟩ := fun k => by
      refine oper_io2 (P := P) (an := anOf C CR call) (k := k) (vs := [(U.map c.co c.cg, [])]) (sn := []) (ids := [c.co]) (st := [(c.co, ob')]) anOf_orc hstep hc j1 j2 ?_ ?_ rfl hids ?_ hst hcc ?_
      · rw [hy]; rfl
      · rw [hy]
        simp [argIo, isPtr]
      · have hz : updF (getO st) [] = getO st := rfl
        simp [closed, refsL, refs, hz, k3, k7, refsL_dats]
      · rw [hso]
        simp [grB, getO, hne]
    have hpost := new_post (so := ⟨0, 0, 0, false, false, none, none, [], some a⟩) (c := ⟨nx, 0, [], 0⟩) (ob := ob2) (u' := .map S.nx) (u := .map nx 0) (rd := [q]) (rd' := [c.co]) (up := [q, S.nx]) hd hH (hnx nx (Nat.le_refl _)) rfl
      (fun ι' hι' _ => .map a ⟨nx, 0, [], 0⟩ ob2 l rfl rfl hι' rfl (by simp [updF_one]) rfl k5 rfl (by simp [ob2]) k6 k7 rfl (by simp)) (fun ι' hι' _ => .map (c := ⟨nx, 0, [], 0⟩) hι') (Rd.cons k1 Rd.nil) (by simp)
    obtain ⟨ι', H', p1, p2, p3, p4, p5, p6⟩ := hpost
    have hG : getO (setAll st ([] ++ asUp (setO [(c.co, ob')] nx ob2))) = updF (getO st) [(nx, ob2)] := by
      funext y
      rw [List.nil_append, getO_setAll, updF_asUp, hso, updF_one]
      simp only [getO]
      by_cases e1 : c.co = y
      · subst e1
        rw [if_pos rfl, if_neg hne, k3]
        rfl
      · rw [if_neg e1]
        by_cases e2 : nx = y
        · subst e2
          rw [if_pos rfl, if_pos rfl]
          rfl
        · rw [if_neg e2, if_neg fun e => e2 e.symm]
          rfl
    have hkeys : ∀ p ∈ asUp (setO [(c.co, ob')] nx ob2), p.1 = c.co ∨ p.1 = nx := fun p hp => by
      have := asUp_ids (List.mem_map.2 ⟨p, hp, rfl⟩)
      rw [hso] at this
      simp only [getO] at this
      by_cases e1 : c.co = p.1
      · exact .inl e1.symm
      · rw [if_neg e1] at this
        by_cases e2 : nx = p.1
        · exact .inr e2.symm
        · rw [if_neg e2] at this
          exact absurd rfl this
    have hHc : H' c.co = q := by rw [p3 _ hne]; exact hH q c k1
    have hHn : H' nx ∈ [q, S.nx] := (p6 (nx, ob2) (by simp)).1
    refine ⟨_, hop, ι', H', by rw [hG]; exact p1, p2, fun x hx => p3 x fun e => hx (by rw [e]; exact hnx nx (Nat.le_refl _)), p4, fun x hx => ?_, fun p hp => ?_, fun _ => rfl, Nat.le_succ _, fun p hp => ?_⟩
    · simp only [List.append_nil, List.mem_singleton] at hx
      subst hx
      exact ⟨by rw [hHc]; simp, by rw [k3]; simp⟩
    · rcases hkeys p (by simpa using hp) with e1 | e1
      · rw [e1, hHc]; simp
      · rw [e1]; exact hHn
    · rcases hkeys p (by simpa using hp) with e1 | e1
      · exact .inr (.inl (by rw [e1, k3]; simp))
      · exact .inr (.inr (by rw [e1]; exact ⟨Nat.le_refl _, Nat.lt_succ_self _⟩))
  · simp at h
end
end Go.Proofs.YtjofhegodknmaaaGreat.W
namespace Go.Proofs.YtjofhegodknmaaaGreat.W
open Go Go.RowKit
open V hiding At
theorem tagOk_some {st : List (Nat × SObj)} {o k : Nat} {b : Bool} (h : tagOk st o k b = true) : ∃ ob, getS st o = some ob ∧ ob.tag = some k ∧ ob.row.isSome = b := by
  unfold tagOk at h
  split at h
  · rename_i ob hob
    simp only [Bool.and_eq_true, beq_iff_eq] at h
    exact ⟨ob, hob, h.1, h.2⟩
  · simp at h
theorem tag_var {τ : Tg} {env : List D} {ι : Pl} {g : Nat → Option V.Obj} {o k : Nat} {so : SObj} (h : DO τ env ι g o so) (hr : so.row.isSome = false) (ht : so.tag = some k) : ∃ c, ι o = some (some c) ∧ τ k = some (c.co, c.cg, 0) := by
  cases h with
  | var c ob hr' hι hl hg gen ty esz ag pos snap cells one tag => exact ⟨c, hι, tag k ht⟩
  | map a c ob l hr' hm hι hl hg gen esz sz snap ha cells hc tag => exact ⟨c, hι, tag k ht⟩
  | nil a hr' => rw [hr'] at hr; simp at hr
  | row a c ob us hr' => rw [hr'] at hr; simp at hr
theorem tag_row {τ : Tg} {env : List D} {ι : Pl} {g : Nat → Option V.Obj} {o k : Nat} {so : SObj} (h : DO τ env ι g o so) (hr : so.row.isSome = true) (ht : so.tag = some k) : (ι o = some none ∧ τ k = none) ∨ ∃ c, ι o = some (some c) ∧ τ k = some (c.co, c.cg, c.l.length + c.k) := by
  cases h with
  | var c ob hr' => rw [hr'] at hr; simp at hr
  | map a9 c9 ob9 l9 hr' => rw [hr'] at hr; simp at hr
  | nil a hr' hι ha hc tag => exact .inl ⟨hι, tag k ht⟩
  | row a c ob us hr' hι hg gen ty esz ag pos agOk snap front rows cells beh one len tag => exact .inr ⟨c, hι, tag k ht⟩
theorem DU.inv_own {env : List D} {ι : Pl} {o : Nat} {y : U} (h : DU env ι (.own o) y) : (ι o = some none ∧ y = .dat .nil) ∨ ∃ c, ι o = some (some c) ∧ y = .own c.co c.cg 0 (c.l.length + c.k) := by
  cases h with
  | own h => exact .inr ⟨_, h, rfl⟩
  | ownN h => exact .inl ⟨h, rfl⟩
theorem same_ref {env : List D} {ι ι' : Pl} {b : Bool} {o : Nat} {u : SU} {y : U} (h : isRef b o u = true) (hd : DU env ι u y) (hd' : DU env ι' u y) :
    (∀ c, ι o = some (some c) → ∃ c', ι' o = some (some c') ∧ c'.co = c.co ∧ c'.cg = c.cg ∧ (b = true → c'.l.length + c'.k = c.l.length + c.k)) ∧ (ι o = some none → ι' o = some none) := by
  cases u with
  | ptr p q =>
    simp only [isRef, Bool.and_eq_true, Bool.not_eq_true'] at h
    obtain rfl := Nat.eq_of_beq_eq_true h.1
    obtain ⟨c1, h1, rfl⟩ : ∃ c, ι p = some (some c) ∧ y = .ptr c.co c.cg q := by cases hd with | ptr h => exact ⟨_, h, rfl⟩
    obtain ⟨c2, h2, h3⟩ : ∃ c, ι' p = some (some c) ∧ U.ptr c1.co c1.cg q = .ptr c.co c.cg q := by
      generalize hco : c1.co = co at hd'
      generalize hcg : c1.cg = cg at hd'
      cases hd' with
      | ptr h => exact ⟨_, h, rfl⟩
    simp only [U.ptr.injEq] at h3
    refine ⟨fun c hc => ?_, fun hn => by rw [h1] at hn; simp at hn⟩
    rw [h1] at hc
    obtain rfl := Option.some.inj (Option.some.inj hc)
    exact ⟨c2, h2, h3.1.symm, h3.2.1.symm, fun e => by rw [h.2] at e; simp at e⟩
  | map p =>
    simp only [isRef, Bool.and_eq_true, Bool.not_eq_true'] at h
    obtain rfl := Nat.eq_of_beq_eq_true h.1
    obtain ⟨c1, h1, rfl⟩ : ∃ c, ι p = some (some c) ∧ y = .map c.co c.cg := by cases hd with | map h => exact ⟨_, h, rfl⟩
    obtain ⟨c2, h2, h3⟩ : ∃ c, ι' p = some (some c) ∧ U.map c1.co c1.cg = .map c.co c.cg := by
      generalize hco : c1.co = co at hd'
      generalize hcg : c1.cg = cg at hd'
      cases hd' with
      | map h => exact ⟨_, h, rfl⟩
    simp only [U.map.injEq] at h3
    refine ⟨fun c hc => ?_, fun hn => by rw [h1] at hn; simp at hn⟩
    rw [h1] at hc
    obtain rfl := Option.some.inj (Option.some.inj hc)
    exact ⟨c2, h2, h3.1.symm, h3.2.symm, fun e => by rw [h.2] at e; simp at e⟩
  | own p =>
    simp only [isRef, Bool.and_eq_true] at h
    obtain rfl := Nat.eq_of_beq_eq_true h.1
    rcases DU.inv_own hd with ⟨h1, rfl⟩ | ⟨c1, h1, rfl⟩
    · rcases DU.inv_own hd' with ⟨h2, _⟩ | ⟨c2, h2, h3⟩
      · exact ⟨fun c hc => by rw [h1] at hc; simp at hc, fun _ => h2⟩
      · simp at h3
    · rcases DU.inv_own hd' with ⟨h2, h3⟩ | ⟨c2, h2, h3⟩
      · simp at h3
      · simp only [U.own.injEq, true_and] at h3
        refine ⟨fun c hc => ?_, fun hn => by rw [h1] at hn; simp at hn⟩
        rw [h1] at hc
        obtain rfl := Option.some.inj (Option.some.inj hc)
        exact ⟨c2, h2, h3.1.symm, h3.2.1.symm, fun _ => h3.2.2.symm⟩
  | _ => simp [isRef] at h
theorem place_same {S0 : SSt} (hs : shapeOk S0 = true) {τ τ' : Tg} {ds : List D} {ι ι' : Pl} {zs : List U} {g : Nat → Option V.Obj} (hd : Den τ ds ι S0 zs g) (hd' : Den τ' ds ι' S0 zs g) {o : Nat} {so : SObj} (ho : getS S0.st o = some so) :
    (∀ c, ι o = some (some c) → ∃ c', ι' o = some (some c') ∧ c'.co = c.co ∧ c'.cg = c.cg ∧ (so.row.isSome = true → c'.l.length + c'.k = c.l.length + c.k)) ∧ (ι o = some none → ι' o = some none) := by
  simp only [shapeOk, Bool.and_eq_true, List.all_eq_true] at hs
  obtain ⟨⟨⟨⟨hs1, hs2⟩, hs3⟩, hs4⟩, hs5⟩ := hs
  have := hs5 _ (getS_mem ho)
  simp only [Bool.or_eq_true, List.any_eq_true, Bool.and_eq_true, Option.isNone_iff_eq_none] at this
  have tm : ∀ {b : Bool} {p : Nat}, (∃ x, x ∈ S0.tm ∧ isRef b p x = true) → (∀ c, ι p = some (some c) → ∃ c', ι' p = some (some c') ∧ c'.co = c.co ∧ c'.cg = c.cg ∧ (b = true → c'.l.length + c'.k = c.l.length + c.k)) ∧ (ι p = some none → ι' p = some none) := by
    intro b p ⟨u, hu, hr⟩
    obtain ⟨i, hi⟩ := List.getElem?_of_mem hu
    obtain ⟨y, hy, h1⟩ := hd.tm.get hi
    obtain ⟨y', hy', h2⟩ := hd'.tm.get hi
    rw [hy] at hy'
    obtain rfl := Option.some.inj hy'
    exact same_ref hr h1 h2
  rcases this with h | ⟨q, hq, ⟨hrow, h⟩, w, hw, hr⟩
  · exact tm h
  · have hgq := nodup_get hs4 hq
    obtain ⟨t1, _⟩ := tm h
    cases hd.ob q.1 q.2 hgq with
    | nil a hr' => rw [hr'] at hrow; simp at hrow
    | row a c ob us hr' => rw [hr'] at hrow; simp at hrow
    | map a c ob l hr' hm hι hl hg gen esz sz snap ha cells hc => rw [hc] at hw; simp at hw
    | var c ob hr' hι hl hg gen ty esz ag pos snap cells =>
      obtain ⟨c', e1, e2, e3, _⟩ := t1 c hι
      cases hd'.ob q.1 q.2 hgq with
      | nil a hr' => rw [hr'] at hrow; simp at hrow
      | row a c ob us hr' => rw [hr'] at hrow; simp at hrow
      | map a c ob l hr' hm hι hl hg gen esz sz snap ha cells hc => rw [hc] at hw; simp at hw
      | var c2 ob2 hr2 hι2 hl2 hg2 gen2 ty2 esz2 ag2 pos2 snap2 cells2 =>
        rw [e1] at hι2
        obtain rfl := Option.some.inj (Option.some.inj hι2)
        rw [e2, hg] at hg2
        obtain rfl := Option.some.inj hg2
        obtain ⟨i, hi⟩ := List.getElem?_of_mem hw
        obtain ⟨y, hy, h1⟩ := cells.get hi
        obtain ⟨y', hy', h2⟩ := cells2.get hi
        rw [hy] at hy'
        obtain rfl := Option.some.inj hy'
        exact same_ref hr h1 h2
theorem getO_in {s : Store} {p : Nat × V.Obj} (h : p ∈ s) : getO s p.1 ≠ none := by
  induction s with
  | nil => simp at h
  | cons q r ih =>
    simp only [getO]
    split
    · simp
    · rename_i hne
      rcases List.mem_cons.1 h with rfl | h
      · exact absurd rfl hne
      · exact ih h
theorem tie_ok {S0 J S S1 : SSt} {xo : List (Nat × Option Nat)} {zs qs : List U} {o p k : Nat} (h : tieOk S0 J S xo (o, p, k) = true) (hsh : shapeOk S0 = true) {τ0 τ' : Tg} {ds rs : List D} {ι ιp ι0 ι2 : Pl} {g1 g2 : Nat → Option V.Obj}
    (hpl : ∀ j q, xo.lookup j = some (some q) → ιp j = ι q) (hdp : Den τ0 ds ιp S0 zs g1) (hd0 : Den τ' ds ι0 S0 zs g1) (hj : Den τ' rs ι2 J qs g2)
    (hs : ∀ q, getS S1.st q = none ↔ getS S.st q = none) (hrow : ∀ q a b, getS S1.st q = some a → getS S.st q = some b → a.row = b.row) (hp : getS S.st p ≠ none) : Tied ι ι2 S1 J o p := by
  obtain ⟨so, hso⟩ := Option.ne_none_iff_exists'.1 hp
  obtain ⟨so1, hso1⟩ := Option.ne_none_iff_exists'.1 fun e => hp ((hs p).1 e)
  have hr1 := hrow p so1 so hso1 hso
  unfold tieOk at h
  split at h
  · rename_i j hj0
    simp only [Bool.and_eq_true, beq_iff_eq] at h
    obtain ⟨⟨h2, h3⟩, h4⟩ := h
    obtain ⟨o0, a1, a2, a3⟩ := tagOk_some h2
    obtain ⟨jo, b1, b2, b3⟩ := tagOk_some h3
    have hrs : so.row.isSome = rowS S.st p := by simp [rowS, hso]
    have hpj := hpl j p h4
    obtain ⟨s1, s2⟩ := place_same hsh hdp hd0 a1
    rw [hpj] at s1 s2
    refine ⟨jo, so1, b1, hso1, by rw [hr1, hrs, b3], fun c hc => ?_, fun hn => ?_⟩
    · obtain ⟨c1, e1, e2, e3, e4⟩ := s1 c hc
      cases hb : rowS S.st p with
      | false =>
        rw [hb] at a3 b3 hrs
        obtain ⟨c3, i1, i2⟩ := tag_var (hd0.ob j o0 a1) a3 a2
        obtain ⟨c2, f1, f2⟩ := tag_var (hj.ob o jo b1) b3 b2
        rw [e1] at i1
        obtain rfl := Option.some.inj (Option.some.inj i1)
        rw [i2] at f2
        simp only [Option.some.injEq, Prod.mk.injEq] at f2
        exact ⟨c2, f1, f2.1.symm.trans e2, f2.2.1.symm.trans e3, fun e => by rw [hr1, hrs] at e; simp at e⟩
      | true =>
        rw [hb] at a3 b3 hrs
        rcases tag_row (hd0.ob j o0 a1) a3 a2 with ⟨i1, _⟩ | ⟨c3, i1, i2⟩
        · rw [e1] at i1; simp at i1
        · rw [e1] at i1
          obtain rfl := Option.some.inj (Option.some.inj i1)
          rcases tag_row (hj.ob o jo b1) b3 b2 with ⟨_, f2⟩ | ⟨c2, f1, f2⟩
          · rw [i2] at f2; simp at f2
          · rw [i2] at f2
            simp only [Option.some.injEq, Prod.mk.injEq] at f2
            exact ⟨c2, f1, f2.1.symm.trans e2, f2.2.1.symm.trans e3, fun _ => f2.2.2.symm.trans (e4 a3)⟩
    · have e1 := s2 hn
      cases hb : rowS S.st p with
      | false =>
        rw [hb] at a3
        obtain ⟨c3, i1, _⟩ := tag_var (hd0.ob j o0 a1) a3 a2
        rw [e1] at i1; simp at i1
      | true =>
        rw [hb] at a3 b3
        rcases tag_row (hd0.ob j o0 a1) a3 a2 with ⟨_, i2⟩ | ⟨c3, i1, _⟩
        · rcases tag_row (hj.ob o jo b1) b3 b2 with ⟨f1, _⟩ | ⟨c2, f1, f2⟩
          · exact f1
          · rw [i2] at f2; simp at f2
        · rw [e1] at i1; simp at i1
  · simp at h
noncomputable def callX (P : Program) (C : Cfg) (CR : Nat → List D → List D → Prop) : CallF := fun f us st nx => if C.clones.contains f then cloneOf C.clones f us st nx else callW P C CR f us st nx
section
variable {P : Program} {CR : Nat → List D → List D → Prop}
open Classical in
theorem io_sp {C : Cfg} (hclone : ∀ dr S e o f us r fo xs, C.clones.contains f = true → sCall P C dr S e f us = some r → callAt o = some (fo, xs) → isBody P f = true → (∀ env τ ι tm g, Den τ env ι S tm g → ∃ ys caps, (evalU tm fo).bind targetU = some (f, caps) ∧ xs.mapM (evalU tm) = some ys ∧ DUs env ι us (ys ++ caps)) → OperSpD P C CR (callX P C CR) dr S e r o) (hk : Know P C CR) (hio : ∀ f sg ds rs, CR f ds rs → C.sig f = some sg → IoHolds P C sg f ds rs) : IoSp P C CR (callX P C CR) := by
  intro dr S e o f us r fo xs hcs h hc hbody hu
  rcases hcs with hcl | ⟨hcl, sg, hsig⟩
  · exact hclone dr S e o f us r fo xs hcl h hc hbody hu
  simp only [sCall, hcl, Bool.false_eq_true, if_false, hsig] at h
  split at h
  · rename_i S0 n0 J n hent hentJ
    split at h
    · rename_i as x hfit
      split at h
      · simp at h
      · rename_i hcall
        split at h
        · simp at h
        · rename_i hdr
          obtain rfl := Option.some.inj h
          generalize hks : ptrSlots sg.args 0 = ks at hcall hdr ⊢
          generalize ht : tied S0 J x = t at hcall hdr ⊢
          simp only [Bool.not_eq_true', Bool.not_eq_false] at hcall
          simp only [callOk, Bool.and_eq_true, List.all_eq_true] at hcall
          obtain ⟨⟨⟨⟨⟨⟨⟨⟨kA, kB⟩, kC⟩, kD⟩, kE⟩, kF⟩, kG⟩, kH⟩, kI⟩ := hcall
          have hob : ObOk S0 S x := fun o p ho => by
            have := kI _ (mem_lookup ho)
            simp only at this
            split at this
            · rename_i a q ha
              refine ⟨a, ha, fun q' hq' => ?_⟩
              obtain rfl := Option.some.inj hq'
              split at this
              · rename_i b hb
                simp only [Bool.and_eq_true, beq_iff_eq, Bool.not_eq_true'] at this
                exact ⟨b, hb, this.1.1, this.1.2, by simpa using this.2⟩
              · simp at this
            · rename_i a ha
              exact ⟨a, ha, fun q' hq' => by simp at hq'⟩
            · simp at this
          have hbd : ∀ p, p ∈ x.ob.filterMap (·.2) → ∃ o, x.ob.lookup o = some (some p) := fun p hp => by
            obtain ⟨q, h1, h2⟩ := List.mem_filterMap.1 hp
            have := kH q h1
            simp only [beq_iff_eq] at this
            exact ⟨q.1, by rw [this, h2]⟩
          have hbd2 : ∀ o p, x.ob.lookup o = some (some p) → p ∈ x.ob.filterMap (·.2) := fun o p hp => List.mem_filterMap.2 ⟨_, mem_lookup hp, rfl⟩
          have hn0 : NxOk S0 := (entry_ext hent (fun o _ => rfl)).1
          obtain ⟨hinj, hlk, hsp⟩ := args_sp (CR := CR) hfit kB hob hn0
          refine ⟨hsp.1.trans ⟨[.call f as n], rfl, by simp [wids, wid]⟩, fun env hb hdf => ?_⟩
          obtain ⟨b1, b2⟩ := Btw.split hsp.1 ⟨[.call f as n], rfl, by simp [wids, wid]⟩ hb
          obtain ⟨d1, q⟩ := hsp.2 env b1 hdf
          refine ⟨d1, fun τ ι tm st nx id H hd hH hid hnx => ?_⟩
          obtain ⟨new, k1, _, k2⟩ := b2
          have : new = [.call f as n] := (List.append_cancel_left k1).symm
          subst this
          obtain ⟨ds', rs, g1, g2, g3, g4⟩ := k2.1
          obtain ⟨ys0, caps, j1, j2, j3⟩ := hu env τ ι tm _ hd
          obtain ⟨ds, vs, v1, v2, v3, v4, v5, v6⟩ := q τ ι tm _ hd (ys0 ++ caps) j3
          rw [g1] at v1
          obtain rfl := Option.some.inj v1
          generalize hzs : vs.map (·.1) = zs at v5 v6
          generalize hrids : vs.flatMap (·.2) = rids at v4
          generalize hsn : snapAll (getO st) rids = sn
          have hd1 := snap_den hd v4
          rw [hsn] at hd1
          have hgv : ∀ y, updF (getO st) sn y = if y ∈ rids then (getO st y).map fun ob => { ob with snap := true } else getO st y := fun y => by
            rw [← hsn]
            exact updF_snap (getO st) rids (getO st) (fun _ => .inl rfl) y
          generalize hgg : updF (getO st) sn = gv at hd1 hgv
          have hplace : ∀ o' c, plOf x ι o' = some (some c) → ∃ p, x.ob.lookup o' = some (some p) ∧ ι p = some (some c) := fun o' c hc => by
            unfold plOf at hc
            split at hc
            · simp at hc
            · simp at hc
            · rename_i q hq
              exact ⟨q, hq, hc⟩
          have hplace2 : ∀ o' p, x.ob.lookup o' = some (some p) → plOf x ι o' = ι p := fun o' p hp => by simp only [plOf, hp]
          have hgb : ∀ o p c, x.ob.lookup o = some (some p) → ι p = some (some c) → gv c.co = getO st c.co := fun o' p c h1 h2 => by
            rw [hgv]
            split
            · rename_i hin
              obtain ⟨p', c', f1, f2, f3⟩ := v4 _ hin
              obtain rfl := hd.inj p' p c' c f2 h2 f3
              obtain ⟨a, _, hb⟩ := hob _ _ h1
              obtain ⟨_, _, _, _, hn⟩ := hb _ rfl
              exact absurd f1 hn
            · rfl
          have hdc := v6 gv hgb
          obtain ⟨r1, r2, r3, r4⟩ := reach_den kB hdc
          generalize hids : reach gv 400 (refsL zs) [] = ids at r1 r2 r3 r4
          generalize hst1 : subStore gv ids = st1
          have hg1 : ∀ y, getO st1 y = if y ∈ ids then gv y else none := fun y => by rw [← hst1]; exact getO_sub gv ids y
          have hdc1 := v6 (getO st1) fun o' p c h1 h2 => by
            rw [hg1, if_pos (r4 o' c (by rw [hplace2 o' p h1]; exact h2))]
            exact hgb o' p c h1 h2
          have hidst : ∀ y ∈ ids, ∃ p c, p ∈ x.ob.filterMap (·.2) ∧ ι p = some (some c) ∧ c.co = y := fun y hy => by
            obtain ⟨o', c, h1, h2⟩ := r3 y hy
            obtain ⟨p, h3, h4⟩ := hplace o' c h1
            exact ⟨p, c, hbd2 _ _ h3, h4, h2⟩
          have hpst : ∀ p c, ι p = some (some c) → getO st c.co ≠ none := fun p c h1 => by
            obtain ⟨_, ob, _, h2, _⟩ := hd.at h1
            rw [h2]; simp
          have hnx1 : ∀ y, nx ≤ y → getO st1 y = none := fun y hy => by
            rw [hg1]
            split
            · rename_i hin
              obtain ⟨p, c, _, h2, rfl⟩ := hidst y hin
              exact absurd (hnx _ hy) (hpst p c h2)
            · rfl
          obtain ⟨ys, st', nx', τ', ι0, qs, J', n', ι2, c1, c2, c3, c4, c5, c6, c7, c8, c9⟩ := callW_some hk (hio f sg _ rs g2 hsig) hsig hent v2 g2 hdc1 hnx1
          rw [hentJ] at c5
          simp only [Option.some.injEq, Prod.mk.injEq] at c5
          obtain ⟨rfl, rfl⟩ := c5
          have hioan : (anOf C CR (callX P C CR)).io f = sg.io := by simp only [anOf, hsig]
          have hiorn : (anOf C CR (callX P C CR)).ior f = sg.ior := by simp only [anOf, hsig]
          have hst1' : ∀ y, getO st1 y ≠ none → y ∈ ids := fun y hy => by
            rw [hg1] at hy
            split at hy
            · rename_i hin; exact hin
            · exact absurd rfl hy
          have hnew : ∀ y, getO st' y ≠ none → (∃ p c, p ∈ x.ob.filterMap (·.2) ∧ ι p = some (some c) ∧ c.co = y) ∨ (nx ≤ y ∧ y < nx') := fun y hy => by
            rcases c3.new y hy with h1 | h1
            · exact .inl (hidst y (hst1' y h1))
            · refine .inr ⟨h1, ?_⟩
              rcases Nat.lt_or_ge y nx' with h2 | h2
              · exact h2
              · exact absurd (c4 y h2) hy
          have hgrB : grB st1 nx st' nx' = true := by
            simp only [grB, Bool.and_eq_true, List.all_eq_true]
            refine ⟨⟨Nat.ble_eq_true_of_le c3.nx, fun p hp => ?_⟩, fun p hp => ?_⟩
            · have h1 : getO st1 p.1 ≠ none := getO_in hp
              exact Option.isSome_iff_ne_none.2 (c3.old p.1 h1)
            · have h1 : getO st' p.1 ≠ none := getO_in hp
              simp only [Bool.or_eq_true, Bool.and_eq_true]
              rcases c3.new p.1 h1 with h2 | h2
              · exact .inl (Option.isSome_iff_ne_none.2 h2)
              · refine .inr ⟨Nat.ble_eq_true_of_le h2, Nat.ble_eq_true_of_le ?_⟩
                rcases Nat.lt_or_ge p.1 nx' with h3 | h3
                · exact h3
                · exact absurd (c4 _ h3) h1
          have hpt : ((ys0 ++ caps).any isPtr || (anOf C CR (callX P C CR)).io f || (anOf C CR (callX P C CR)).ior f) = true := by
            rw [hioan, hiorn]
            simp only [Bool.or_eq_true] at kA ⊢
            rcases kA with (kA | kA) | kA
            · exact .inl (.inr kA)
            · exact .inr kA
            · refine .inl (.inl ?_)
              obtain ⟨w, hw, hp⟩ := List.any_eq_true.1 kA
              obtain ⟨i, hi⟩ := List.getElem?_of_mem hw
              have key : (∀ c, w ≠ .at c) → (∀ z, DU ds' (plOf x ι) w z → isPtr z = true) → (ys0 ++ caps).any isPtr = true := fun hne hz => by
                obtain ⟨z, hz1, hz2⟩ := hdc.tm.get hi
                have hil : i < (ys0 ++ caps).length := by
                  have h1 := (List.getElem?_eq_some_iff.1 hz1).1
                  rw [← hzs, List.length_map, (mapM_some v3).1] at h1
                  exact h1
                have := v5 i _ _ z hi (List.getElem?_eq_getElem hil) hz1 hne
                refine List.any_eq_true.2 ⟨_, List.getElem_mem hil, ?_⟩
                rw [← this]
                exact hz z hz2
              cases w with
              | ptr o' q' => exact key (fun c => by simp) fun z hz => by cases hz; rfl
              | map o' => exact key (fun c => by simp) fun z hz => by cases hz; rfl
              | _ => simp at hp
          have c1x : callX P C CR f zs st1 nx = some (resL ys, st', nx') := by simp only [callX, hcl, Bool.false_eq_true, if_false]; exact c1
          have hstep := step_call (P := P) (g := getO st) (id := id) hc j1 (hk.body f _ _ g2)
          have hop : ∀ k, oper P (anOf C CR (callX P C CR)) (k + 3) id o tm (getO st) nx = some ⟨⟨resL ys, ids ++ rids, sn ++ asUp st'⟩, nx', true⟩ := fun k => by
            have := oper_io2 (P := P) (an := anOf C CR (callX P C CR)) (k := k) (vs := vs) (sn := sn) (ids := ids) (st := st1) (st' := st') (nx := nx) (nx' := nx') (u := resL ys) anOf_orc hstep hc j1 j2 hpt (by rw [hioan]; exact v3) (by rw [hrids]; exact hsn) (by rw [hgg, hzs]; exact hids) (by rw [hgg, hzs, r1, r2]; rfl) (by rw [hgg]; exact hst1) (by rw [hzs]; exact c1x) hgrB
            rw [hrids] at this
            exact this
          have hG : ∀ y, getO (setAll st (sn ++ asUp st')) y = (getO st' y).or (gv y) := fun y => by
            rw [getO_setAll, updF_append, updF_asUp, hgg]
          have hgn : ∀ y, getO st y = none → gv y = none := fun y hy => by
            rw [hgv, hy]
            split <;> rfl
          have hkb : ∀ p ∈ keptL t, p ∈ x.ob.filterMap (·.2) := fun p hp => by
            obtain ⟨w, hw, rfl⟩ := List.mem_map.1 hp
            obtain ⟨r, hr, he⟩ := List.any_eq_true.1 (kF w hw)
            simp only [beq_iff_eq] at he
            exact List.mem_filterMap.2 ⟨r, hr, he⟩
          have htied : ∀ o p j, (o, p, j) ∈ t → Tied ι ι2 (snapS x.fz S) J o p := fun o' p j hm => by
            obtain ⟨o1, ho1⟩ := hbd p (hkb p (List.mem_map.2 ⟨_, hm, rfl⟩))
            obtain ⟨_, _, hb2⟩ := hob o1 _ ho1
            obtain ⟨b, hb3, _⟩ := hb2 p rfl
            refine tie_ok (kG _ hm) kB hplace2 hdc1 c2 c9 (fun q => ?_) (fun q a b h1 h2 => ?_) (by rw [hb3]; simp)
            · rw [getS_snap]; simp
            · rw [getS_snap, h2] at h1
              simp only [Option.map_some, Option.some.injEq] at h1
              rw [← h1]
          obtain ⟨ι3, t1, t2, t3, t4⟩ := after_den (G := getO (setAll st (sn ++ asUp st'))) (k := x.e.m) (t := t) (bound := x.ob.filterMap (·.2)) hd1 c9 g4 kD kE hkb htied
            (fun y hy => (hnew y hy).imp_right fun h2 => hgn y (hnx y h2.1)) (fun y hy => by
              rw [hG]
              obtain ⟨ob, hob⟩ := Option.ne_none_iff_exists'.1 hy
              rw [hob]; rfl) (fun y hy => by rw [hG, hy]; rfl) sg.res.length
          have htake : (ys ++ qs).take sg.res.length = ys := by
            have h1 := Nat.eq_of_beq_eq_true kC
            rw [hks] at c8
            exact List.take_left' (by omega)
          rw [htake] at t2
          have hru := oneS_res t2
          have hrd : ∀ y ∈ ids ++ rids, getO st y ≠ none := fun y hy => by
            rcases List.mem_append.1 hy with hy | hy
            · obtain ⟨p, c, _, h2, rfl⟩ := hidst y hy
              exact hpst p c h2
            · obtain ⟨p, c, _, h2, rfl⟩ := v4 y hy
              exact hpst p c h2
          have hsnm : ∀ p ∈ sn, p.1 ∈ rids := fun p hp => by
            rw [← hsn] at hp
            simp only [snapAll, List.mem_filterMap] at hp
            obtain ⟨y, hy, hyp⟩ := hp
            obtain ⟨ob, _, rfl⟩ := Option.map_eq_some_iff.1 hyp
            exact hy
          have hasm : ∀ p ∈ asUp st', getO st' p.1 ≠ none := fun p hp => asUp_ids (List.mem_map.2 ⟨p, hp, rfl⟩)
          have hup : ∀ p ∈ sn ++ asUp st', p.1 = id ∨ getO st p.1 ≠ none ∨ (nx ≤ p.1 ∧ p.1 < nx') := fun p hp => by
            rcases List.mem_append.1 hp with hp | hp
            · exact .inr (.inl (hrd _ (List.mem_append_right _ (hsnm p hp))))
            · rcases hnew _ (hasm p hp) with ⟨p', c, _, h2, h3⟩ | h2
              · exact .inr (.inl (by rw [← h3]; exact hpst p' c h2))
              · exact .inr (.inr h2)
          refine ⟨⟨⟨resL ys, ids ++ rids, sn ++ asUp st'⟩, nx', true⟩, hop, fun hdrt => ?_, ι3, t1, hru, hrd, c3.nx, hup⟩
          have hall : ∀ p ∈ x.ob.filterMap (·.2), p ∈ keptL t := fun p hp => by
            simp only [hdrt, Bool.true_and, Bool.not_eq_true', Bool.not_eq_false, List.all_eq_true, List.contains_iff_mem] at hdr
            exact hdr p hp
          let Q : Nat → Prop := fun y => ∃ j c, ι2 j = some (some c) ∧ c.co = y
          let H' : Nat → Nat := fun y => if getO st y ≠ none then H y else if h : Q y then ren S.nx t (Classical.choose h) else S.nx + J.nx
          have hold : ∀ y, getO st y ≠ none → H' y = H y := fun y hy => if_pos hy
          have hplc : ∀ p c, ι p = some (some c) → H' c.co = p := fun p c hc => by rw [hold _ (hpst p c hc)]; exact hH p c hc
          have hfr : ∀ y, nx ≤ y → ∀ j c, ι2 j = some (some c) → c.co = y → H' y = ren S.nx t j := fun y hy j c hc he => by
            have hq : Q y := ⟨j, c, hc, he⟩
            have hno : ¬ getO st y ≠ none := fun h => h (hnx y hy)
            simp only [H', if_neg hno, dif_pos hq]
            obtain ⟨c', h1, h2⟩ := Classical.choose_spec hq
            rw [c9.inj _ j c' c h1 hc (h2.trans he.symm)]
          refine ⟨ι3, H', t1, hru, hold, fun o' c hc => ?_, fun y hy => ⟨?_, hrd y hy⟩, fun p hp => ?_, fun _ => rfl, c3.nx, hup⟩
          · rcases t4 o' _ hc with ⟨j, jo, hjo, rfl, e1⟩ | ⟨hb, e1⟩
            · obtain ⟨_, ob, _, h3, _⟩ := c9.at e1
              rcases hnew c.co (by rw [h3]; simp) with ⟨p, c0, f1, f2, f3⟩ | f1
              · rw [← f3, hplc p c0 f2]
                obtain ⟨⟨o1, p1, q1⟩, hm, he⟩ := List.mem_map.1 (hall p f1)
                simp only at he
                subst he
                obtain ⟨jo', so', _, _, _, i4, _⟩ := htied _ _ _ hm
                obtain ⟨c', e2, e3, _⟩ := i4 c0 f2
                obtain rfl := c9.inj o1 j c' c e2 e1 (e3.trans f3)
                show p1 = ren S.nx t o1
                simp [ren, nodupB_lookup kD hm]
              · exact hfr c.co f1.1 j c e1 rfl
            · exact hplc o' c e1
          · rcases List.mem_append.1 hy with hy | hy
            · obtain ⟨p, c, h1, h2, rfl⟩ := hidst y hy
              rw [hplc p c h2]
              exact List.mem_append_right _ h1
            · obtain ⟨p, c, h1, h2, rfl⟩ := v4 y hy
              rw [hplc p c h2]
              exact List.mem_append_left _ h1
          · rcases List.mem_append.1 hp with hp | hp
            · obtain ⟨p', c, h1, h2, h3⟩ := v4 _ (hsnm p hp)
              rw [← h3, hplc p' c h2]
              simp [h1]
            · rcases hnew _ (hasm p hp) with ⟨p', c, h1, h2, h3⟩ | h2
              · rw [← h3, hplc p' c h2]
                exact List.mem_append_left _ (List.mem_append_left _ (List.mem_append_right _ h1))
              · by_cases hq : Q p.1
                · obtain ⟨j, c, e1, e2⟩ := hq
                  rw [hfr p.1 h2.1 j c e1 e2]
                  obtain ⟨jo, hjo⟩ := c9.dom j _ e1
                  refine List.mem_append_left _ (List.mem_append_right _ ?_)
                  simp only [after, List.map_map, List.mem_map]
                  exact ⟨_, getS_mem hjo, rfl⟩
                · have hno : ¬ getO st p.1 ≠ none := fun h => h (hnx _ h2.1)
                  simp only [H', if_neg hno, dif_neg hq]
                  simp
    · simp at h
  · simp at h
theorem callX_ok {C : Cfg} (hC : ∀ f, C.clones.contains f = true → Clones P f) : CallOk P (anOf C CR (callX P C CR)) := by
  intro f us st nx u st' nx' h
  simp only [anOf, callX] at h
  split at h
  · exact clone_holds (fs := C.clones) (fun g hg => hC g (by simpa using hg)) h
  · exact callW_ok f us st nx u st' nx' h
theorem io_all {C : Cfg} (hC : ∀ f, C.clones.contains f = true → Clones P f) (hS : ∀ f, C.clones.contains f = true → ∃ sg, C.sig f = some sg ∧ sg.io = false) : IoOk P C := fun CR hk h =>
  ⟨callX P C CR, callX_ok hC, io_sp (clone_sp (fun f us st nx hf => by simp only [callX, hf, if_true]) hS) hk h⟩
end
end Go.Proofs.YtjofhegodknmaaaGreat.W
namespace Go.Proofs.YtjofhegodknmaaaGreat.W
open Go Go.RowKit
open V hiding At
section
variable {P : Program}
theorem trees_ok {C : Cfg} (hN : Named P) (hR : RegsP P) (hm : P.follows .mixedOrders = true) (hC : ∀ f, C.clones.contains f = true → Clones P f) (hS : ∀ f, C.clones.contains f = true → ∃ sg, C.sig f = some sg ∧ sg.io = false) {fs : Fns} (hfs : ∀ f n t, fs.t f = some (n, t) → sfun P C f = some (n, t)) (hx : ∀ f ds rs, fs.x f ds = some rs → FnOk P C f ds rs ∧ isBody P f = true) {k f : Nat} {ds rs : List D} (h : cev P fs k f ds = some rs) : FnOk P C f ds rs :=
  funcs_ok hN hR hm (io_all hC hS) hfs hx k k f ds rs (Nat.le_refl k) h
end
end Go.Proofs.YtjofhegodknmaaaGreat.W
namespace Go.Proofs.YtjofhegodknmaaaGreat.W
open Go Go.RowKit
open V hiding At
inductive Cop where
  | bin (op : BinOp)
  | no
  | conv (j : IntKind)
  | mx (b : Bool)
  | text
  | isNil (sl neg : Bool)
  | mget (z : D)
  | mhas
  | mput
  | slen
  | sidx
  | ssl (lo hi : Bool)
  | neg
  | pop (o : POp)
  deriving Inhabited
def lookM (s : List UInt8) : List D → Option (Option D)
  | [] => some none
  | .str x :: v :: r => if beqT s x.data.toList then some (some v) else lookM s r
  | _ => none
def putM (s : ByteArray) (d : D) : List D → Option (List D)
  | [] => some [.str s, d]
  | .str x :: v :: r => if beqT s.data.toList x.data.toList then some (.str s :: d :: r) else (putM s d r).map fun l => .str x :: v :: l
  | _ => none
def binD (op : BinOp) : D → D → Option D
  | .int k m, .int j n =>
    if shiftOp op then (bitI op k m n).map (.int k)
    else if k = j then
      match cmpI op m n with
      | some r => some (.bool r)
      | none => match ariI op k m n with
        | some r => some (.int k r)
        | none => (bitI op k m n).map (.int k)
    else none
  | .str a, .str b =>
    match op with
    | .lss => some (.bool (Op.bytesLess a.toList b.toList))
    | .gtr => some (.bool (!(Op.bytesLess a.toList b.toList || a.toList == b.toList)))
    | .eql => some (.bool (a.toList == b.toList))
    | .neq => some (.bool (!(a.toList == b.toList)))
    | .add => if a.size + b.size ≤ 9223372036854775807 then some (.str (a ++ b)) else none
    | _ => none
  | _, _ => none
def freeP : POp → Bool
  | .cell _ _ | .sub _ _ _ | .mkAgg | .mkFp | .mkFn _ | .mkLst _ _ | .cat _ _ _ | .elt _ | .upd _ _ _ | .len | .slc _ _ _ | .zeros _ _ _ | .fpOf _ | .deref _ | .isPtr | .room _ _ | .mlen | .addN | .clr _ _ _ => true
  | _ => false
def P0 : Program := default
def copD : Cop → List D → Option D
  | .bin op, [a, b] => binD op a b
  | .no, [.bool b] => some (.bool (!b))
  | .conv j, [.int _ n] => some (.int j (j.wrap n))
  | .mx b, [.int k m, .int j n] => if k = j then some (.int k (if b then (if n > m then n else m) else (if n < m then n else m))) else none
  | .text, [.lst l] => (bytesOfD l).map fun b => .str ⟨b.toArray⟩
  | .isNil true neg, [.lst _] => some (.bool neg)
  | .isNil true neg, [.nil] => some (.bool (!neg))
  | .isNil false neg, [.fp _] => some (.bool neg)
  | .mget z, [.lst l, .str s] =>
    match lookM s.data.toList l with
    | some (some d) => if d.one then some d else none
    | some none => if z.one then some z else none
    | none => none
  | .mhas, [.lst l, .str s] => (lookM s.data.toList l).map fun r => .bool r.isSome
  | .mput, [.lst l, .str s, d] => (putM s d l).map .lst
  | .slen, [.str s] => some (.int .i64 s.size)
  | .sidx, [.str s, .int _ i] => if 0 ≤ i then (s[i.toNat]?).map fun b => .int .u8 b.toNat else none
  | .ssl lo hi, .str s :: ds =>
    match boundD 0 lo ds with
    | some (a, ds) =>
      match boundD s.size hi ds with
      | some (b, []) => if a ≤ b ∧ b ≤ s.size then some (.str (s.extract a b)) else none
      | _ => none
    | none => none
  | .neg, [.int k n] => some (.int k (k.wrap (-n)))
  | .pop o, ds => if freeP o then popD P0 o ds else none
  | _, _ => none
section
variable {P : Program}
theorem free_eq {o : POp} (h : freeP o = true) (ds : List D) : popD P o ds = popD P0 o ds := by
  cases o <;> first
    | (simp [freeP] at h; done)
    | rfl
    | (rcases ds with _ | ⟨a, _ | ⟨b, _ | ⟨c, _ | ⟨e, r⟩⟩⟩⟩ <;> first | rfl | (cases a <;> first | rfl | (cases b <;> first | rfl | (cases c <;> rfl))))
    | (rcases ds with _ | ⟨a, _ | ⟨b, _ | ⟨c, r⟩⟩⟩ <;> first | rfl | (cases a <;> first | rfl | (cases b <;> rfl) | (rename_i k n; cases k <;> rfl)))
def lookT : List Nat → List At → Nat → Option At
  | t :: ts, a :: as, s => if Nat.beq t s then some a else lookT ts as s
  | _, _, _ => none
def argOf (ts : List Nat) (as : List At) : Operand → Option At
  | .tmp t => lookT ts as t
  | .const v => (constD v).map .c
  | _ => none
def args (ts : List Nat) (as : List At) : List Operand → Option (List At)
  | [] => some []
  | x :: r => match argOf ts as x, args ts as r with
    | some a, some l => some (a :: l)
    | _, _ => none
def sameT (ts : List Nat) (as : List At) : List Nat → List At → Bool
  | [], [] => true
  | t :: r, a :: q => (match lookT ts as t with | some b => beqA b a | none => false) && sameT ts as r q
  | _, _ => false
theorem atsD_of {env : List D} : ∀ {as : List At}, (∀ a ∈ as, ∃ d, atD env a = some d) → ∃ ds, atsD env as = some ds
  | [], h => ⟨[], rfl⟩
  | a :: r, h => by
    obtain ⟨d, hd⟩ := h a (by simp)
    obtain ⟨l, hl⟩ := atsD_of fun b hb => h b (List.mem_cons_of_mem _ hb)
    exact ⟨d :: l, atsD_mk hd hl⟩
theorem sameT_eq {env : List D} {ts0 : List Nat} {as0 : List At} : ∀ {ts : List Nat} {as : List At} {ds : List D}, sameT ts0 as0 ts as = true → atsD env as = some ds → ds = ts.map fun t => ((lookT ts0 as0 t).bind (atD env)).getD .nil
  | [], [], ds, h, hd => by simp [atsD] at hd; subst hd; rfl
  | t :: r, a :: q, ds, h, hd => by
    simp only [sameT, Bool.and_eq_true] at h
    obtain ⟨d, l, h1, h2, rfl⟩ := atsD_cons hd
    have ih := sameT_eq h.2 h2
    split at h
    · rename_i b hb
      have := beqA_eq h.1
      subst this
      simp only [List.map_cons, hb, Option.bind_some, h1, Option.getD_some, ← ih]
    · simp at h
  | [], _ :: _, _, h, _ => by simp [sameT] at h
  | _ :: _, [], _, h, _ => by simp [sameT] at h
theorem lookT_mem : ∀ {ts : List Nat} {as : List At} {t : Nat} {a : At}, lookT ts as t = some a → t ∈ ts ∧ a ∈ as
  | t :: ts, a :: as, s, b, h => by
    simp only [lookT] at h
    split at h
    · rename_i e
      obtain rfl := Nat.eq_of_beq_eq_true e
      obtain rfl := Option.some.inj h
      simp
    · obtain ⟨h1, h2⟩ := lookT_mem h
      simp [h1, h2]
theorem args_get {ts : List Nat} {as : List At} {env : List D} : ∀ {xs : List Operand} {bs : List At} {ds : List D}, args ts as xs = some bs → atsD env bs = some ds → ∀ (i : Nat) x, xs[i]? = some x → ∃ b d, argOf ts as x = some b ∧ ds[i]? = some d ∧ atD env b = some d
  | [], bs, ds, h, hd, i, x, hx => by simp at hx
  | y :: r, bs, ds, h, hd, i, x, hx => by
    simp only [args] at h
    split at h
    · rename_i a l h1 h2
      obtain rfl := Option.some.inj h
      obtain ⟨d, q, g1, g2, rfl⟩ := atsD_cons hd
      cases i with
      | zero =>
        simp only [List.getElem?_cons_zero, Option.some.injEq] at hx
        subst hx
        exact ⟨a, d, h1, rfl, g1⟩
      | succ i => exact args_get h2 g2 i x (by simpa using hx)
    · simp at h
theorem prim_env {xs : List Operand} {ts : List Nat} {as bs : List At} {env ds : List D} (ht : ts = tmps xs) (hs : sameT ts as ts as = true) (ha : args ts as xs = some bs) (hd : atsD env bs = some ds) :
    ∃ ds0, atsD env as = some ds0 ∧ ∀ (i : Nat) x, xs[i]? = some x → ∃ d, ds[i]? = some d ∧ evalU (tmOf ts ds0) x = some (.dat d) := by
  have key : ∀ t ∈ ts, ∃ a d, lookT ts as t = some a ∧ atD env a = some d := by
    intro t h
    have : ∃ i : Nat, xs[i]? = some (Operand.tmp t) := by
      subst ht
      clear hs ha hd
      induction xs with
      | nil => simp [tmps] at h
      | cons x r ih =>
        cases x with
        | tmp s =>
          simp only [tmps, List.mem_cons] at h
          rcases h with rfl | h
          · exact ⟨0, rfl⟩
          · obtain ⟨i, hi⟩ := ih h; exact ⟨i + 1, by simpa using hi⟩
        | _ => obtain ⟨i, hi⟩ := ih (by simpa [tmps] using h); exact ⟨i + 1, by simpa using hi⟩
    obtain ⟨i, hi⟩ := this
    obtain ⟨b, d, h1, h2, h3⟩ := args_get ha hd i _ hi
    exact ⟨b, d, h1, h3⟩
  have hall : ∀ {ts1 : List Nat} {as1 : List At}, sameT ts as ts1 as1 = true → (∀ t ∈ ts1, t ∈ ts) → ∀ a ∈ as1, ∃ d, atD env a = some d := by
    intro ts1
    induction ts1 with
    | nil => intro as1 h1 _ a hm; cases as1 with
      | nil => simp at hm
      | cons => simp [sameT] at h1
    | cons t r ih =>
      intro as1 h1 h2 a hm
      cases as1 with
      | nil => simp at hm
      | cons b q =>
        simp only [sameT, Bool.and_eq_true] at h1
        rcases List.mem_cons.1 hm with rfl | hm
        · obtain ⟨a', d, k1, k2⟩ := key t (h2 t (by simp))
          have := h1.1
          rw [k1] at this
          have := beqA_eq this
          subst this
          exact ⟨d, k2⟩
        · exact ih h1.2 (fun t' ht' => h2 t' (List.mem_cons_of_mem _ ht')) a hm
  obtain ⟨ds0, h0⟩ := atsD_of (hall hs fun t h => h)
  refine ⟨ds0, h0, fun i x hx => ?_⟩
  obtain ⟨b, d, h1, h2, h3⟩ := args_get ha hd i x hx
  refine ⟨d, h2, ?_⟩
  cases x with
  | tmp t =>
    have hm := (lookT_mem h1).1
    have e0 := sameT_eq hs h0
    simp only [evalU, tmOf]
    rw [e0, putTm_at (f := fun t => ((lookT ts as t).bind (atD env)).getD .nil) (fun s hs => by rw [List.length_replicate]; exact maxN_lt hs) hm]
    have h1' : lookT ts as t = some b := h1
    simp [h1', h3]
  | const v =>
    simp only [argOf] at h1
    obtain ⟨c, hc, rfl⟩ := Option.map_eq_some_iff.1 h1
    simp only [atD, Option.some.injEq] at h3
    subst h3
    simp [evalU, hc]
  | _ => simp [argOf] at h1
end
end Go.Proofs.YtjofhegodknmaaaGreat.W
namespace Go.Proofs.YtjofhegodknmaaaGreat.W
open Go Go.RowKit
open V hiding At
section
variable {P : Program}
theorem pure_one {tm : List U} {o : Oper} {x : Operand} {v w : Value} {d : D} (hops : o.op.operands.toList = [x]) (hx : (evalU tm x).bind valU = some v) (hns : ∀ cs b, o.op ≠ .select cs b)
    (he : ∀ ρ : Operand → Value, ρ x = v → pureSem P (execOp ρ o) = some (.value w)) (hd : constD w = some d) : opPure P tm o = some ⟨.dat d, [], []⟩ := by
  unfold opPure
  rw [hops]
  simp only [List.all_cons, List.all_nil, hx, Option.isSome_some, Bool.and_self, if_true, Bool.and_true]
  rw [he (fun x => ((evalU tm x).bind valU).getD undef) (by simp only [hx]; rfl)]
  cases ho : o.op <;> first | exact absurd ho (hns _ _) | simp only [hd, Option.map_some]
theorem pure_two {tm : List U} {o : Oper} {x y : Operand} {v z w : Value} {d : D} (hops : o.op.operands.toList = [x, y]) (hx : (evalU tm x).bind valU = some v) (hy : (evalU tm y).bind valU = some z) (hns : ∀ cs b, o.op ≠ .select cs b)
    (he : ∀ ρ : Operand → Value, ρ x = v → ρ y = z → pureSem P (execOp ρ o) = some (.value w)) (hd : constD w = some d) : opPure P tm o = some ⟨.dat d, [], []⟩ := by
  unfold opPure
  rw [hops]
  simp only [List.all_cons, List.all_nil, hx, hy, Option.isSome_some, Bool.and_self, if_true, Bool.and_true]
  rw [he (fun x => ((evalU tm x).bind valU).getD undef) (by simp only [hx]; rfl) (by simp only [hy]; rfl)]
  cases ho : o.op <;> first | exact absurd ho (hns _ _) | simp only [hd, Option.map_some]
theorem bin_pure {op : BinOp} {t w : TypeId} {x y : Operand} {tm : List U} {o : Oper} {a b d : D} (ho : o.op = .binOp op t x y w) (hx : evalU tm x = some (.dat a)) (hy : evalU tm y = some (.dat b)) (h : binD op a b = some d) : opPure P tm o = some ⟨.dat d, [], []⟩ ∧ d.one = true := by
  letI : Sig := ⟨fun _ => .nil⟩
  have hops : o.op.operands.toList = [x, y] := by rw [ho]; rfl
  have hns : ∀ cs b, o.op ≠ .select cs b := by rw [ho]; simp
  cases a with
  | int k m =>
    cases b with
    | int j n =>
      simp only [binD] at h
      split at h
      · rename_i hs
        obtain ⟨r, hr, rfl⟩ := Option.map_eq_some_iff.1 h
        exact ⟨opPure_bin ho hx hy (orc_bit rfl rfl (.inl hs) hr rfl) const_int, rfl⟩
      · split at h
        · rename_i hkj
          subst hkj
          split at h
          · rename_i r hr
            obtain rfl := Option.some.inj h
            exact ⟨opPure_bin ho hx hy (orc_cmp rfl rfl hr) const_bool, rfl⟩
          · split at h
            · rename_i r hr
              obtain rfl := Option.some.inj h
              exact ⟨opPure_bin ho hx hy (orc_ari rfl rfl hr rfl) const_int, rfl⟩
            · obtain ⟨r, hr, rfl⟩ := Option.map_eq_some_iff.1 h
              exact ⟨opPure_bin ho hx hy (orc_bit rfl rfl (.inr rfl) hr rfl) const_int, rfl⟩
        · simp at h
    | _ => simp [binD] at h
  | str p =>
    cases b with
    | str q =>
      have hg : ∀ (op : BinOp), pureSem P (eqGuard op t x y (.string p) (.string q)) = some () := by
        intro op
        unfold eqGuard
        cases op <;> rfl
      have hxv : (evalU tm x).bind valU = some (.string p) := by rw [hx]; rfl
      have hyv : (evalU tm y).bind valU = some (.string q) := by rw [hy]; rfl
      have fin : ∀ {v : Value}, pureSem P (binOp op t (.string p) (.string q)) = some v → ∀ ρ : Operand → Value, ρ x = .string p → ρ y = .string q → pureSem P (execOp ρ o) = some (.value v) := by
        intro v hv ρ h1 h2
        simp only [execOp, ho, h1, h2, pureSem_bind, hg, hv, Option.bind_some]
        rfl
      simp only [binD] at h
      split at h
      · obtain rfl := Option.some.inj h
        exact ⟨pure_two hops hxv hyv hns (fin (v := .bool (Op.bytesLess p.toList q.toList)) (by simp [binOp, Op.stringOp, pureSem])) rfl, rfl⟩
      · obtain rfl := Option.some.inj h
        exact ⟨pure_two hops hxv hyv hns (fin (v := .bool (!(Op.bytesLess p.toList q.toList || p.toList == q.toList))) (by simp [binOp, Op.stringOp, pureSem])) rfl, rfl⟩
      · obtain rfl := Option.some.inj h
        exact ⟨pure_two hops hxv hyv hns (fin (v := .bool (p.toList == q.toList)) (by simp [binOp, Op.stringOp, pureSem])) rfl, rfl⟩
      · obtain rfl := Option.some.inj h
        exact ⟨pure_two hops hxv hyv hns (fin (v := .bool (!(p.toList == q.toList))) (by simp [binOp, Op.stringOp, pureSem])) rfl, rfl⟩
      · split at h
        · rename_i hsz
          obtain rfl := Option.some.inj h
          refine ⟨pure_two hops hxv hyv hns (fin (v := .string (p ++ q)) ?_) rfl, rfl⟩
          have hn : ¬ (9223372036854775807 : Int) < (p.size : Int) + (q.size : Int) := by omega
          simp only [binOp, Op.stringOp]
          simp [hn, pureSem]
        · simp at h
      · simp at h
    | _ => simp [binD] at h
  | _ => simp [binD] at h
theorem no_pure {t : TypeId} {x : Operand} {tm : List U} {o : Oper} {b : Bool} (ho : o.op = .unOp .not t x) (hx : evalU tm x = some (.dat (.bool b))) : opPure P tm o = some ⟨.dat (.bool (!b)), [], []⟩ :=
  pure_one (v := .bool b) (w := .bool (!b)) (x := x) (by rw [ho]; rfl) (by rw [hx]; rfl) (by rw [ho]; simp) (fun ρ h => by simp [execOp, ho, h, pureSem_bind, Op.unary, pureSem]) rfl
theorem conv_pure {s t : TypeId} {x : Operand} {tm : List U} {o : Oper} {k j : IntKind} {n : Int} {sd : TypeDesc} (ho : o.op = .convert s t x) (hs : P.underlying s = some sd) (ht : P.underlying t = some (.int j)) (hx : evalU tm x = some (.dat (.int k n))) : opPure P tm o = some ⟨.dat (.int j (j.wrap n)), [], []⟩ := by
  refine pure_one (v := .int k n) (w := .int j (j.wrap n)) (x := x) (by rw [ho]; rfl) (by rw [hx]; rfl) (by rw [ho]; simp) (fun ρ h => ?_) rfl
  have : pureSem P (convert s t (.int k n)) = some (.int j (j.wrap n)) := by
    unfold convert
    simp only [pureSem_bind, pureSem_underlying P s hs, pureSem_underlying P t ht, Option.bind_some]
    rfl
  simp only [execOp, ho, h, pureSem_bind, this, Option.bind_some]
  rfl
theorem mx_pure {c : Call} {b : Bool} {x y : Operand} {tm : List U} {o : Oper} {k : IntKind} {m n : Int} (ho : o.op = .call c) (hcal : c.callee = .builtin (if b then .max else .min)) (hargs : c.args.toList = [x, y]) (hx : evalU tm x = some (.dat (.int k m))) (hy : evalU tm y = some (.dat (.int k n))) :
    opPure P tm o = some ⟨.dat (.int k (if b then (if n > m then n else m) else (if n < m then n else m))), [], []⟩ := by
  have hca : c.args = #[x, y] := by
    apply Array.ext'
    simpa using hargs
  refine pure_two (v := .int k m) (z := .int k n) (w := .int k (if b then (if n > m then n else m) else (if n < m then n else m))) (x := x) (y := y) (by rw [ho]; simp [Op.operands, Call.operands, hcal, hargs]) (by rw [hx]; rfl) (by rw [hy]; rfl) (by rw [ho]; simp) (fun ρ h1 h2 => ?_) rfl
  cases b <;> simp only [if_true, Bool.false_eq_true, if_false] at hcal ⊢
  all_goals
    simp only [execOp, ho, Go.resolve, hcal, hca]
    simp [h1, h2, pureSem_bind, invoke, builtin, Builtin.max_, Builtin.min_, Builtin.max2, Builtin.min2]
theorem lookM_find {s : List UInt8} : ∀ {l : List D} {r : Option D} {i : Nat}, lookM s l = some r →
    (r = none ∧ findS s (l.map U.dat) i = some none) ∨ ∃ v j, r = some v ∧ findS s (l.map U.dat) i = some (some j) ∧ i ≤ j ∧ (l.map U.dat)[2 * (j - i) + 1]? = some (.dat v)
  | [], r, i, h => by simp [lookM] at h; exact .inl ⟨h.symm, rfl⟩
  | [a], r, i, h => by cases a <;> simp [lookM] at h
  | a :: v :: q, r, i, h => by
    cases a with
    | str x =>
      simp only [lookM] at h
      split at h
      · rename_i hx
        simp only [Option.some.injEq] at h
        subst h
        exact .inr ⟨v, i, rfl, by simp only [List.map_cons, findS, hx, if_true], Nat.le_refl _, by simp⟩
      · rename_i hx
        rcases lookM_find (i := i + 1) h with ⟨h1, h2⟩ | ⟨w, j, h1, h2, h3, h4⟩
        · exact .inl ⟨h1, by simp only [List.map_cons, findS, hx]; exact h2⟩
        · refine .inr ⟨w, j, h1, by simp only [List.map_cons, findS, hx]; exact h2, by omega, ?_⟩
          have e : 2 * (j - i) + 1 = 2 * (j - (i + 1)) + 1 + 2 := by omega
          rw [e]
          simpa using h4
    | _ => simp [lookM] at h
theorem lookM_pure {t kt et : TypeId} {s : ByteArray} {l : List D} {r : Option D} {z : D} (h1 : P.underlying t = some (.map kt et)) (h2 : P.underlying kt = some .string) (h3 : zeroD P et = some z) (h : lookM s.data.toList l = some r) (ok : Bool) :
    opLookup P (fakeM t l) t ok (.map 0 0) (.dat (.str s)) = some ⟨if ok then .tup [.dat (r.getD z), .dat (.bool r.isSome)] else .dat (r.getD z), [0], []⟩ := by
  unfold opLookup
  simp only [h1, fakeM]
  have hv : valU (.dat (.str s)) = some (.string s) := rfl
  simp only [hv, true_and]
  have hk : keyOk P kt (.string s) (l.map U.dat).isEmpty = true := by simp only [keyOk, h2]
  simp only [hk, if_true]
  have hf : findU P kt (.string s) (l.map U.dat) = findS s.data.toList (l.map U.dat) 0 := by simp only [findU, h2]
  rw [hf]
  rcases lookM_find (i := 0) h with ⟨rfl, h5⟩ | ⟨v, j, rfl, h5, _, h6⟩
  · rw [h5]
    simp only [h3, Option.map_some]
    cases ok <;> rfl
  · rw [h5]
    simp only [Nat.sub_zero] at h6
    simp only [h6, Option.map_some]
    cases ok <;> rfl
theorem putM_find {s : ByteArray} {d : D} : ∀ {l r : List D} {i : Nat}, putM s d l = some r →
    (findS s.data.toList (l.map U.dat) i = some none ∧ r = l ++ [.str s, d]) ∨ ∃ j, findS s.data.toList (l.map U.dat) i = some (some j) ∧ i ≤ j ∧ (l.map U.dat)[2 * (j - i)]? = some (.dat (.str s)) ∧ r.map U.dat = ((l.map U.dat).set (2 * (j - i)) (.dat (.str s))).set (2 * (j - i) + 1) (.dat d)
  | [], r, i, h => by simp [putM] at h; exact .inl ⟨rfl, by simp [← h]⟩
  | [a], r, i, h => by cases a <;> simp [putM] at h
  | a :: v :: q, r, i, h => by
    cases a with
    | str x =>
      simp only [putM] at h
      split at h
      · rename_i hx
        simp only [Option.some.injEq] at h
        subst h
        have he : s = x := by
          have := beqT_iff.1 hx
          cases s; cases x
          simp only at this
          congr
          exact Array.ext' this
        subst he
        exact .inr ⟨i, by simp only [List.map_cons, findS, hx, if_true], Nat.le_refl _, by simp, by simp⟩
      · rename_i hx
        obtain ⟨l', hl', rfl⟩ := Option.map_eq_some_iff.1 h
        rcases putM_find (i := i + 1) hl' with ⟨g1, g2⟩ | ⟨j, g1, g2, g3, g4⟩
        · exact .inl ⟨by simp only [List.map_cons, findS, hx]; exact g1, by simp [g2]⟩
        · refine .inr ⟨j, by simp only [List.map_cons, findS, hx]; exact g1, by omega, ?_, ?_⟩
          · have e : 2 * (j - i) = 2 * (j - (i + 1)) + 2 := by omega
            rw [e]
            simpa using g3
          · have e : 2 * (j - i) = 2 * (j - (i + 1)) + 1 + 1 := by omega
            have e2 : 2 * (j - i) + 1 = 2 * (j - (i + 1)) + 1 + 1 + 1 := by omega
            rw [e2, e]
            simp only [List.map_cons, List.set_cons_succ, g4]
    | _ => simp [putM] at h
theorem putM_pure {t kt et : TypeId} {s : ByteArray} {l r : List D} {d : D} (h1 : P.underlying t = some (.map kt et)) (h2 : P.underlying kt = some .string) (h : putM s d l = some r) :
    ∃ ob, opMapUpdate P (fakeM t l) t (.map 0 0) (.dat (.str s)) (.dat d) = some ⟨.undef, [0], [(0, ob)]⟩ ∧ ob.cells = r.map .dat := by
  unfold opMapUpdate
  simp only [h1, fakeM]
  have hv : valU (.dat (.str s)) = some (.string s) := rfl
  simp only [hv, true_and]
  have hk : keyOk P kt (.string s) false = true := by simp only [keyOk, h2]
  simp only [hk, if_true]
  have hf : findU P kt (.string s) (l.map U.dat) = findS s.data.toList (l.map U.dat) 0 := by simp only [findU, h2]
  rw [hf]
  rcases putM_find (i := 0) h with ⟨g1, rfl⟩ | ⟨j, g1, _, g3, g4⟩
  · rw [g1]
    exact ⟨_, rfl, by simp⟩
  · rw [g1]
    simp only [Nat.sub_zero] at g3 g4
    simp only [g3, Option.bind_some, hv]
    have hs : Instr.sameBits 10000 (.string s) (.string s) = true := by
      simp only [Instr.sameBits]
      first | exact beq_self_eq_true s | (cases s with | mk data => show (data == data) = true; simp)
    simp only [hs, if_true]
    exact ⟨_, rfl, by rw [g4]⟩
theorem asDat_map : ∀ (l : List D), (l.map U.dat).mapM asDat = some l
  | [] => rfl
  | d :: r => by rw [List.map_cons, List.mapM_cons, asDat_map r]; rfl
def beqNats : List Nat → List Nat → Bool
  | [], [] => true
  | a :: r, b :: q => Nat.beq a b && beqNats r q
  | _, _ => false
theorem beqNats_eq : ∀ {a b : List Nat}, beqNats a b = true → a = b
  | [], [], _ => rfl
  | a :: r, b :: q, h => by
    simp only [beqNats, Bool.and_eq_true] at h
    rw [Nat.eq_of_beq_eq_true h.1, beqNats_eq h.2]
  | [], _ :: _, h => by simp [beqNats] at h
  | _ :: _, [], h => by simp [beqNats] at h
def primC (P : Program) (o : Op) (bs : List At) : Option (Cop × List At) :=
  match o with
  | .binOp op _ _ _ _ => some (.bin op, bs)
  | .unOp .not _ _ => some (.no, bs)
  | .convert s d _ =>
    match P.underlying s, P.underlying d with
    | some _, some (.int j) => some (.conv j, bs)
    | _, _ => none
  | .call c =>
    match c.callee, c.args.toList with
    | .builtin .max, [_, _] => some (.mx true, bs)
    | .builtin .min, [_, _] => some (.mx false, bs)
    | _, _ => none
  | _ => none
def nilOk (P : Program) (neg : Bool) (o : Op) (t : TypeId) (ts : List Nat) : Bool :=
  match opPure P (tmOf ts [.nil]) ⟨none, o, t, "", #[], none⟩ with
  | some ⟨.dat (.bool b), _, _⟩ => b == !neg
  | _ => false
def toC (P : Program) (o : POp) (as : List At) : Option (Cop × List At) :=
  match o with
  | .prim o _ ts => if beqNats ts (tmps o.operands.toList) && sameT ts as ts as then (args ts as o.operands.toList).bind (primC P o) else none
  | .ofBytes o _ ts =>
    match o, ts with
    | .convert _ _ (.tmp s), [s'] => if Nat.beq s s' then some (.text, as) else none
    | _, _ => none
  | .isNil sl neg o t ts => if !sl || nilOk P neg o t ts then some (.isNil sl neg, as) else none
  | .mget t =>
    match P.underlying t with
    | some (.map kt et) => match P.underlying kt, zeroD P et with
      | some .string, some z => some (.mget z, as)
      | _, _ => none
    | _ => none
  | .mhas t =>
    match P.underlying t with
    | some (.map kt et) => match P.underlying kt, zeroD P et with
      | some .string, some _ => some (.mhas, as)
      | _, _ => none
    | _ => none
  | .mput t =>
    match P.underlying t with
    | some (.map kt _) => match P.underlying kt with
      | some .string => some (.mput, as)
      | _ => none
    | _ => none
  | o => if freeP o then some (.pop o, as) else none
theorem args_len {ts : List Nat} {as : List At} : ∀ {xs : List Operand} {bs : List At}, args ts as xs = some bs → bs.length = xs.length
  | [], bs, h => by simp [args] at h; simp [← h]
  | x :: r, bs, h => by
    simp only [args] at h
    split at h
    · rename_i a l h1 h2
      obtain rfl := Option.some.inj h
      simp [args_len h2]
    · simp at h
theorem one_of {ds : List D} (h : ds.length = 1) {a : D} (e : ds[0]? = some a) : ds = [a] := by
  match ds, h with
  | [p], _ => simp at e; rw [e]
theorem two_of {ds : List D} (h : ds.length = 2) {a b : D} (e : ds[0]? = some a) (e' : ds[1]? = some b) : ds = [a, b] := by
  match ds, h with
  | [p, q], _ => simp at e e'; rw [e, e']
theorem prim_ok {o : Op} {t : TypeId} {ts : List Nat} {as bs bs' : List At} {c : Cop} {env ds : List D} {d : D} (h1 : beqNats ts (tmps o.operands.toList) = true) (h2 : sameT ts as ts as = true) (h3 : args ts as o.operands.toList = some bs) (h4 : primC P o bs = some (c, bs'))
    (hd : atsD env bs' = some ds) (hc : copD c ds = some d) : ∃ ds0, atsD env as = some ds0 ∧ popD P (.prim o t ts) ds0 = some d := by
  have hbs : bs' = bs := by
    unfold primC at h4
    repeat' split at h4
    all_goals first | (simp at h4; done) | (simp only [Option.some.injEq, Prod.mk.injEq] at h4; exact h4.2.symm)
  subst hbs
  obtain ⟨ds0, g1, g2⟩ := prim_env (beqNats_eq h1) h2 h3 hd
  refine ⟨ds0, g1, ?_⟩
  suffices hs : opPure P (tmOf ts ds0) ⟨none, o, t, "", #[], none⟩ = some ⟨.dat d, [], []⟩ ∧ d.one = true by
    simp only [popD, hs.1, hs.2, if_true]
  unfold primC at h4
  split at h4
  · rename_i op t' x y w
    simp only [Option.some.injEq, Prod.mk.injEq, and_true] at h4
    subst h4
    obtain ⟨a, e1, e2⟩ := g2 0 x rfl
    obtain ⟨b, e3, e4⟩ := g2 1 y rfl
    have hl : ds = [a, b] := by
      have hlen : ds.length = 2 := by rw [atsD_len hd, args_len h3]; rfl
      match ds, hlen with
      | [p, q], _ => simp at e1 e3; rw [e1, e3]
    subst hl
    exact bin_pure rfl e2 e4 hc
  · rename_i t' x
    simp only [Option.some.injEq, Prod.mk.injEq, and_true] at h4
    subst h4
    obtain ⟨a, e1, e2⟩ := g2 0 x rfl
    obtain rfl := one_of (by rw [atsD_len hd, args_len h3]; rfl) e1
    cases a with
    | bool b =>
      simp only [copD, Option.some.injEq] at hc
      subst hc
      exact ⟨no_pure rfl e2, rfl⟩
    | _ => simp [copD] at hc
  · rename_i s t' x
    split at h4
    · rename_i sd j hs ht
      simp only [Option.some.injEq, Prod.mk.injEq, and_true] at h4
      subst h4
      obtain ⟨a, e1, e2⟩ := g2 0 x rfl
      obtain rfl := one_of (by rw [atsD_len hd, args_len h3]; rfl) e1
      cases a with
      | int k n =>
        simp only [copD, Option.some.injEq] at hc
        subst hc
        exact ⟨conv_pure rfl hs ht e2, rfl⟩
      | _ => simp [copD] at hc
    · simp at h4
  · rename_i cl
    have hmx : ∀ (b : Bool) (x y : Operand), cl.callee = .builtin (if b then .max else .min) → cl.args.toList = [x, y] → c = .mx b → opPure P (tmOf ts ds0) ⟨none, .call cl, t, "", #[], none⟩ = some ⟨.dat d, [], []⟩ ∧ d.one = true := by
      intro b x y hcal hargs hcc
      have hops : (Op.call cl).operands.toList = [x, y] := by cases b <;> simp [Op.operands, Call.operands, hcal, hargs]
      obtain ⟨p, e1, e2⟩ := g2 0 x (by rw [hops]; rfl)
      obtain ⟨q, e3, e4⟩ := g2 1 y (by rw [hops]; rfl)
      obtain rfl := two_of (by rw [atsD_len hd, args_len h3, hops]; rfl) e1 e3
      subst hcc
      cases p with
      | int k m =>
        cases q with
        | int j n =>
          simp only [copD] at hc
          split at hc
          · rename_i hkj
            subst hkj
            obtain rfl := Option.some.inj hc
            exact ⟨mx_pure rfl hcal hargs e2 e4, rfl⟩
          · simp at hc
        | _ => simp [copD] at hc
      | _ => simp [copD] at hc
    split at h4
    · rename_i x y hcal hargs
      simp only [Option.some.injEq, Prod.mk.injEq, and_true] at h4
      exact hmx true x y hcal hargs h4.symm
    · rename_i x y hcal hargs
      simp only [Option.some.injEq, Prod.mk.injEq, and_true] at h4
      exact hmx false x y hcal hargs h4.symm
    · simp at h4
  · simp at h4
theorem toC_ok {o : POp} {as bs : List At} {c : Cop} (h : toC P o as = some (c, bs)) {env ds : List D} {d : D} (hd : atsD env bs = some ds) (hc : copD c ds = some d) : ∃ ds0, atsD env as = some ds0 ∧ popD P o ds0 = some d := by
  have free : ∀ {o : POp}, (if freeP o then some (Cop.pop o, as) else none) = some (c, bs) → ∃ ds0, atsD env as = some ds0 ∧ popD P o ds0 = some d := by
    intro o h
    split at h
    · rename_i hf
      simp only [Option.some.injEq, Prod.mk.injEq] at h
      obtain ⟨rfl, rfl⟩ := h
      simp only [copD, hf, if_true] at hc
      exact ⟨ds, hd, by rw [free_eq hf]; exact hc⟩
    · simp at h
  unfold toC at h
  split at h
  · split at h
    · rename_i hb
      simp only [Bool.and_eq_true] at hb
      obtain ⟨l, h3, h4⟩ := Option.bind_eq_some_iff.1 h
      exact prim_ok hb.1 hb.2 h3 h4 hd hc
    · simp at h
  · rename_i o' t ts
    split at h
    · rename_i s d' s1 s2
      split at h
      · rename_i hs
        obtain rfl := Nat.eq_of_beq_eq_true hs
        simp only [Option.some.injEq, Prod.mk.injEq] at h
        obtain ⟨rfl, rfl⟩ := h
        refine ⟨ds, hd, ?_⟩
        match ds, hc with
        | [.lst l], hc =>
          have hn : opPure P (tmOf [s1] [.lst l]) ⟨none, .convert s d' (.tmp s1), t, "", #[], none⟩ = none := by
            refine opPure_none (x := .tmp s1) (by simp [Op.operands]) ?_
            have : (tmOf [s1] [D.lst l])[s1]? = some (.dat (.lst l)) := by
              have := putTm_at (f := fun _ => D.lst l) (ts := [s1]) (l := List.replicate (maxN [s1]) U.undef) (t := s1) (fun s hs => by rw [List.length_replicate]; exact maxN_lt hs) (by simp)
              simpa [tmOf] using this
            simp only [evalU, this, Option.bind_some]
            rfl
          simp only [popD, hn, lstOf, Option.bind_some]
          exact hc
        | [.int _ _], hc => simp [copD] at hc
        | [.bool _], hc => simp [copD] at hc
        | [.str _], hc => simp [copD] at hc
        | [.nil], hc => simp [copD] at hc
        | [.agg _], hc => simp [copD] at hc
        | [.fp _], hc => simp [copD] at hc
        | [.fn _ _], hc => simp [copD] at hc
        | [.nul _], hc => simp [copD] at hc
        | [.sym _], hc => simp [copD] at hc
        | [], hc => simp [copD] at hc
        | _ :: _ :: _, hc => simp [copD] at hc
      · simp at h
    · simp at h
  · rename_i sl neg o' t ts
    split at h
    · rename_i hnil
      simp only [Option.some.injEq, Prod.mk.injEq] at h
      obtain ⟨rfl, rfl⟩ := h
      refine ⟨ds, hd, ?_⟩
      by_cases hz : sl = true ∧ ds = [.nil]
      · obtain ⟨rfl, rfl⟩ := hz
        simp only [Bool.not_true, Bool.false_or] at hnil
        unfold nilOk at hnil
        simp only [copD, Option.some.injEq] at hc
        subst hc
        split at hnil
        · rename_i b _ _ hb
          have : b = !neg := by simpa using hnil
          subst this
          simp only [popD, hb]
          rfl
        · simp at hnil
      · unfold copD at hc
        split at hc <;> simp_all [popD]
    · simp at h
  · rename_i t
    split at h
    · rename_i kt et h1
      split at h
      · rename_i z h2 h3
        simp only [Option.some.injEq, Prod.mk.injEq] at h
        obtain ⟨rfl, rfl⟩ := h
        refine ⟨ds, hd, ?_⟩
        unfold copD at hc
        split at hc <;> try (simp at *; done)
        rename_i z' l s heq
        simp only [Cop.mget.injEq] at heq
        subst heq
        cases hl : lookM s.data.toList l with
        | none => simp [hl] at hc
        | some r =>
          simp only [popD, lookM_pure h1 h2 h3 hl false, Bool.false_eq_true, if_false]
          rw [hl] at hc
          cases r <;> exact hc
      · simp at h
    · simp at h
  · rename_i t
    split at h
    · rename_i kt et h1
      split at h
      · rename_i z h2 h3
        simp only [Option.some.injEq, Prod.mk.injEq] at h
        obtain ⟨rfl, rfl⟩ := h
        refine ⟨ds, hd, ?_⟩
        unfold copD at hc
        split at hc <;> try (simp at *; done)
        rename_i l s heq
        obtain ⟨r, hr, rfl⟩ := Option.map_eq_some_iff.1 hc
        simp only [popD, lookM_pure h1 h2 h3 hr true, if_true]
      · simp at h
    · simp at h
  · rename_i t
    split at h
    · rename_i kt et h1
      split at h
      · rename_i h2
        simp only [Option.some.injEq, Prod.mk.injEq] at h
        obtain ⟨rfl, rfl⟩ := h
        refine ⟨ds, hd, ?_⟩
        unfold copD at hc
        split at hc <;> try (simp at *; done)
        rename_i l s x heq
        obtain ⟨r, hr, rfl⟩ := Option.map_eq_some_iff.1 hc
        obtain ⟨ob, k1, k2⟩ := putM_pure h1 h2 hr
        simp only [popD, k1, k2, asDat_map, Option.map_some]
      · simp at h
    · simp at h
  · exact free h
end
end Go.Proofs.YtjofhegodknmaaaGreat.W
namespace Go.Proofs.YtjofhegodknmaaaGreat.W
open Go Go.RowKit
open V hiding At
inductive T where
  | fin (x : X) (as : List At)
  | op (o : Cop) (as : List At) (k : T)
  | call (f : Nat) (as : List At) (n : Nat) (k : T)
  | callv (fl : List Nat) (g : At) (as : List At) (n : Nat) (k : T)
  | ite (a : At) (t e : T)
  | bind (x : X) (t : T) (n : Nat) (k : T)
  | loop (as : List At) (b : T)
instance : Inhabited T := ⟨.fin .ret []⟩
def toT (P : Program) : E → Option T
  | .leaf _ _ _ => none
  | .fin x as => some (.fin x as)
  | .step (.op o as) k => match toC P o as, toT P k with
    | some (c, bs), some t => some (.op c bs t)
    | _, _ => none
  | .step (.call f as n) k => (toT P k).map (.call f as n)
  | .step (.callv fl g as n) k => (toT P k).map (.callv fl g as n)
  | .ite a t e => match toT P t, toT P e with
    | some t, some e => some (.ite a t e)
    | _, _ => none
  | .bind x t n k => match toT P t, toT P k with
    | some t, some k => some (.bind x t n k)
    | _, _ => none
  | .loop as b => (toT P b).map (.loop as)
structure FnT where
  t : Nat → Option (Nat × T)
  x : Nat → List D → Option (List D)
mutual
inductive R (F : FnT) : T → List D → X → List D → Prop
  | fin {x : X} {as : List At} {env ds : List D} (h : atsD env as = some ds) : R F (.fin x as) env x ds
  | op {o : Cop} {as : List At} {k : T} {env ds rs : List D} {d : D} {x : X} (h : atsD env as = some ds) (h1 : copD o ds = some d) (h2 : R F k (env ++ [d]) x rs) : R F (.op o as k) env x rs
  | call {f n : Nat} {as : List At} {k : T} {env ds qs rs : List D} {x : X} (h : atsD env as = some ds) (h1 : Cv F f ds qs) (h2 : qs.length = n) (h3 : R F k (env ++ qs) x rs) : R F (.call f as n k) env x rs
  | callv {f n : Nat} {fl : List Nat} {g : At} {as : List At} {k : T} {env ds caps qs rs : List D} {x : X} (h : atD env g = some (.fn f caps)) (h0 : atsD env as = some ds) (hf : fl.contains f = true) (h1 : Cv F f (ds ++ caps) qs) (h2 : qs.length = n) (h3 : R F k (env ++ qs) x rs) : R F (.callv fl g as n k) env x rs
  | iteT {a : At} {t e : T} {env rs : List D} {x : X} (h : atD env a = some (.bool true)) (h1 : R F t env x rs) : R F (.ite a t e) env x rs
  | iteF {a : At} {t e : T} {env rs : List D} {x : X} (h : atD env a = some (.bool false)) (h1 : R F e env x rs) : R F (.ite a t e) env x rs
  | bindO {x y : X} {t k : T} {n : Nat} {env qs rs : List D} (h : R F t env x qs) (hn : qs.length = n) (h1 : R F k (env ++ qs) y rs) : R F (.bind x t n k) env y rs
  | bindP {x y : X} {t k : T} {n : Nat} {env rs : List D} (h : R F t env y rs) (hn : y ≠ x) : R F (.bind x t n k) env y rs
  | loop {as : List At} {b : T} {env ds rs : List D} {x : X} (h : atsD env as = some ds) (h1 : L F b env ds x rs) : R F (.loop as b) env x rs
inductive L (F : FnT) : T → List D → List D → X → List D → Prop
  | more {b : T} {env ds ds' rs : List D} {x : X} (h : R F b (env ++ ds) .normal ds') (hn : ds'.length = ds.length) (h1 : L F b env ds' x rs) : L F b env ds x rs
  | out {b : T} {env ds rs : List D} {x : X} (h : R F b (env ++ ds) x rs) (hn : x ≠ .normal) : L F b env ds x rs
inductive Cv (F : FnT) : Nat → List D → List D → Prop
  | tree {f n : Nat} {t : T} {ds rs : List D} (h : F.t f = some (n, t)) (hn : ds.length = n) (h1 : R F t ds .ret rs) : Cv F f ds rs
  | known {f : Nat} {ds rs : List D} (h : F.t f = none) (h1 : F.x f ds = some rs) : Cv F f ds rs
end
structure Are (P : Program) (fs : Fns) (F : FnT) : Prop where
  t : ∀ f n t, F.t f = some (n, t) → ∃ e, fs.t f = some (n, e) ∧ toT P e = some t
  n : ∀ f, F.t f = none → fs.t f = none
  x : ∀ f ds rs, F.x f ds = some rs → fs.x f ds = some rs
section
variable {P : Program} {fs : Fns} {F : FnT}
theorem ev_up {k j : Nat} {e : E} {env : List D} {o : Out} (h : ev P fs k e env = some o) (hj : k ≤ j) : ev P fs j e env = some o := (mono_all k).1 j e env o hj h
theorem lev_up {k j : Nat} {b : E} {env ds : List D} {o : Out} (h : lev P fs k b env ds = some o) (hj : k ≤ j) : lev P fs j b env ds = some o := (mono_all k).2.1 j b env ds o hj h
theorem cev_up {k j : Nat} {f : Nat} {ds rs : List D} (h : cev P fs k f ds = some rs) (hj : k ≤ j) : cev P fs j f ds = some rs := (mono_all k).2.2.2 j f ds rs hj h
theorem bnat (n : Nat) : Nat.beq n n = true := Nat.beq_refl n
theorem R_sound (hA : Are P fs F) {t : T} {env : List D} {x : X} {rs : List D} (h : R F t env x rs) : ∀ e, toT P e = some t → ∃ k, ev P fs k e env = some (.fin x rs) := by
  refine R.rec (F := F) (motive_1 := fun t env x rs _ => ∀ e, toT P e = some t → ∃ k, ev P fs k e env = some (.fin x rs)) (motive_2 := fun b env ds x rs _ => ∀ e, toT P e = some b → ∃ k, lev P fs k e env ds = some (.fin x rs)) (motive_3 := fun f ds rs _ => ∃ k, cev P fs k f ds = some rs) ?_ ?_ ?_ ?_ ?_ ?_ ?_ ?_ ?_ ?_ ?_ ?_ ?_ h
  · intro x as env ds h e he
    cases e with
    | fin y bs =>
      simp only [toT, Option.some.injEq, T.fin.injEq] at he
      obtain ⟨rfl, rfl⟩ := he
      exact ⟨1, by simp [ev, h]⟩
    | step s k => cases s <;> simp only [toT] at he <;> (try split at he) <;> simp at he
    | leaf => simp [toT] at he
    | ite => simp only [toT] at he; split at he <;> simp at he
    | bind => simp only [toT] at he; split at he <;> simp at he
    | loop => simp [toT] at he
  · intro o as t env ds rs d x h h1 h2 ih e he
    cases e with
    | step s k =>
      cases s with
      | op o' as' =>
        simp only [toT] at he
        split at he
        · rename_i c bs t' hc ht
          simp only [Option.some.injEq, T.op.injEq] at he
          obtain ⟨rfl, rfl, rfl⟩ := he
          obtain ⟨ds0, g1, g2⟩ := toC_ok hc h h1
          obtain ⟨j, hj⟩ := ih k ht
          refine ⟨j + 2, ?_⟩
          have hs : stp P fs (j + 1) (.op o' as') env = some [d] := by simp [stp, g1, g2]
          simp only [ev, hs]
          exact ev_up hj (Nat.le_succ _)
        · simp at he
      | call => simp [toT] at he
      | callv => simp [toT] at he
    | leaf => simp [toT] at he
    | fin => simp [toT] at he
    | ite => simp only [toT] at he; split at he <;> simp at he
    | bind => simp only [toT] at he; split at he <;> simp at he
    | loop => simp [toT] at he
  · intro f n as t env ds qs rs x h h1 h2 h3 ih1 ih2 e he
    cases e with
    | step s k =>
      cases s with
      | call f' as' n' =>
        simp only [toT] at he
        obtain ⟨t', ht, hh⟩ := Option.map_eq_some_iff.1 he
        simp only [T.call.injEq] at hh
        obtain ⟨rfl, rfl, rfl, rfl⟩ := hh
        obtain ⟨i, hi⟩ := ih1
        obtain ⟨j, hj⟩ := ih2 k ht
        refine ⟨max i j + 2, ?_⟩
        have hs : stp P fs (max i j + 1) (.call f' as' n') env = some qs := by
          simp only [stp, h, cev_up hi (Nat.le_max_left i j), h2, bnat, if_true]
        simp only [ev, hs]
        exact ev_up hj (Nat.le_trans (Nat.le_max_right i j) (Nat.le_succ _))
      | op => simp only [toT] at he; split at he <;> simp at he
      | callv => simp [toT] at he
    | leaf => simp [toT] at he
    | fin => simp [toT] at he
    | ite => simp only [toT] at he; split at he <;> simp at he
    | bind => simp only [toT] at he; split at he <;> simp at he
    | loop => simp [toT] at he
  · intro f n fl g as t env ds caps qs rs x h h0 hf h1 h2 h3 ih1 ih2 e he
    cases e with
    | step s k =>
      cases s with
      | callv fl' g' as' n' =>
        simp only [toT] at he
        obtain ⟨t', ht, hh⟩ := Option.map_eq_some_iff.1 he
        simp only [T.callv.injEq] at hh
        obtain ⟨rfl, rfl, rfl, rfl, rfl⟩ := hh
        obtain ⟨i, hi⟩ := ih1
        obtain ⟨j, hj⟩ := ih2 k ht
        refine ⟨max i j + 2, ?_⟩
        have hs : stp P fs (max i j + 1) (.callv fl' g' as' n') env = some qs := by
          simp only [stp, h, h0, hf, cev_up hi (Nat.le_max_left i j), h2, bnat, if_true]
        simp only [ev, hs]
        exact ev_up hj (Nat.le_trans (Nat.le_max_right i j) (Nat.le_succ _))
      | op => simp only [toT] at he; split at he <;> simp at he
      | call => simp [toT] at he
    | leaf => simp [toT] at he
    | fin => simp [toT] at he
    | ite => simp only [toT] at he; split at he <;> simp at he
    | bind => simp only [toT] at he; split at he <;> simp at he
    | loop => simp [toT] at he
  · intro a t u env rs x h h1 ih e he
    cases e with
    | ite a' t' u' =>
      simp only [toT] at he
      split at he
      · rename_i t1 u1 ht hu
        simp only [Option.some.injEq, T.ite.injEq] at he
        obtain ⟨rfl, rfl, rfl⟩ := he
        obtain ⟨j, hj⟩ := ih t' ht
        exact ⟨j + 1, by simp only [ev, h]; exact hj⟩
      · simp at he
    | leaf => simp [toT] at he
    | fin => simp [toT] at he
    | step s k => cases s <;> simp only [toT] at he <;> (try split at he) <;> simp at he
    | bind => simp only [toT] at he; split at he <;> simp at he
    | loop => simp [toT] at he
  · intro a t u env rs x h h1 ih e he
    cases e with
    | ite a' t' u' =>
      simp only [toT] at he
      split at he
      · rename_i t1 u1 ht hu
        simp only [Option.some.injEq, T.ite.injEq] at he
        obtain ⟨rfl, rfl, rfl⟩ := he
        obtain ⟨j, hj⟩ := ih u' hu
        exact ⟨j + 1, by simp only [ev, h]; exact hj⟩
      · simp at he
    | leaf => simp [toT] at he
    | fin => simp [toT] at he
    | step s k => cases s <;> simp only [toT] at he <;> (try split at he) <;> simp at he
    | bind => simp only [toT] at he; split at he <;> simp at he
    | loop => simp [toT] at he
  · intro x y t k n env qs rs h hn h1 ih1 ih2 e he
    cases e with
    | bind x' t' n' k' =>
      simp only [toT] at he
      split at he
      · rename_i t1 u1 ht hu
        simp only [Option.some.injEq, T.bind.injEq] at he
        obtain ⟨rfl, rfl, rfl, rfl⟩ := he
        obtain ⟨i, hi⟩ := ih1 t' ht
        obtain ⟨j, hj⟩ := ih2 k' hu
        refine ⟨max i j + 1, ?_⟩
        simp only [ev, ev_up hi (Nat.le_max_left i j), if_true, hn, bnat]
        exact ev_up hj (Nat.le_max_right i j)
      · simp at he
    | leaf => simp [toT] at he
    | fin => simp [toT] at he
    | step s k => cases s <;> simp only [toT] at he <;> (try split at he) <;> simp at he
    | ite => simp only [toT] at he; split at he <;> simp at he
    | loop => simp [toT] at he
  · intro x y t k n env rs h hn ih e he
    cases e with
    | bind x' t' n' k' =>
      simp only [toT] at he
      split at he
      · rename_i t1 u1 ht hu
        simp only [Option.some.injEq, T.bind.injEq] at he
        obtain ⟨rfl, rfl, rfl, rfl⟩ := he
        obtain ⟨i, hi⟩ := ih t' ht
        exact ⟨i + 1, by simp only [ev, hi, if_neg hn]⟩
      · simp at he
    | leaf => simp [toT] at he
    | fin => simp [toT] at he
    | step s k => cases s <;> simp only [toT] at he <;> (try split at he) <;> simp at he
    | ite => simp only [toT] at he; split at he <;> simp at he
    | loop => simp [toT] at he
  · intro as b env ds rs x h h1 ih e he
    cases e with
    | loop as' b' =>
      simp only [toT] at he
      obtain ⟨b1, hb, hh⟩ := Option.map_eq_some_iff.1 he
      simp only [T.loop.injEq] at hh
      obtain ⟨rfl, rfl⟩ := hh
      obtain ⟨i, hi⟩ := ih b' hb
      exact ⟨i + 1, by simp only [ev, h]; exact hi⟩
    | leaf => simp [toT] at he
    | fin => simp [toT] at he
    | step s k => cases s <;> simp only [toT] at he <;> (try split at he) <;> simp at he
    | ite => simp only [toT] at he; split at he <;> simp at he
    | bind => simp only [toT] at he; split at he <;> simp at he
  · intro b env ds ds' rs x h hn h1 ih1 ih2 e he
    obtain ⟨i, hi⟩ := ih1 e he
    obtain ⟨j, hj⟩ := ih2 e he
    refine ⟨max i j + 1, ?_⟩
    simp only [lev, ev_up hi (Nat.le_max_left i j), hn, bnat, if_true]
    exact lev_up hj (Nat.le_max_right i j)
  · intro b env ds rs x h hn ih e he
    obtain ⟨i, hi⟩ := ih e he
    refine ⟨i + 1, ?_⟩
    cases x with
    | normal => exact absurd rfl hn
    | ret => simp only [lev, hi]
    | exit a => simp only [lev, hi]
  · intro f n t ds rs h hn h1 ih
    obtain ⟨e, g1, g2⟩ := hA.t f n t h
    obtain ⟨k, hk⟩ := ih e g2
    exact ⟨k + 1, by simp only [cev, g1, hn, bnat, if_true, hk]⟩
  · intro f ds rs h h1
    exact ⟨1, by simp only [cev, hA.n f h]; exact hA.x f ds rs h1⟩
theorem Cv_sound (hA : Are P fs F) {f : Nat} {ds rs : List D} (h : Cv F f ds rs) : ∃ k, cev P fs k f ds = some rs := by
  cases h with
  | tree h hn h1 =>
    obtain ⟨e, g1, g2⟩ := hA.t _ _ _ h
    obtain ⟨k, hk⟩ := R_sound hA h1 e g2
    exact ⟨k + 1, by simp only [cev, g1, hn, bnat, if_true, hk]⟩
  | known h h1 => exact ⟨1, by simp only [cev, hA.n f h]; exact hA.x f ds rs h1⟩
end
end Go.Proofs.YtjofhegodknmaaaGreat.W
namespace Go.Proofs.YtjofhegodknmaaaGreat.W
open Go Go.RowKit
open V hiding At
def beqF : POp → POp → Bool
  | .cell a b, .cell c d => Nat.beq a c && Nat.beq b d
  | .sub a b c, .sub x y z => Nat.beq a x && Nat.beq b y && Nat.beq c z
  | .mkAgg, .mkAgg => true
  | .mkFp, .mkFp => true
  | .mkFn a, .mkFn b => Nat.beq a b
  | .mkLst a b, .mkLst c d => Nat.beq a c && (b == d)
  | .cat a b c, .cat x y z => Nat.beq a x && Nat.beq b y && (c == z)
  | .elt a, .elt b => Nat.beq a b
  | .upd a b c, .upd x y z => Nat.beq a x && Nat.beq b y && (c == z)
  | .len, .len => true
  | .slc a b c, .slc x y z => Nat.beq a x && (b == y) && (c == z)
  | .zeros a b c, .zeros x y z => beqDs a x && Nat.beq b y && (c == z)
  | .fpOf a, .fpOf b => Nat.beq a b
  | .deref a, .deref b => Nat.beq a b
  | .isPtr, .isPtr => true
  | .room a b, .room x y => Nat.beq a x && Nat.beq b y
  | .mlen, .mlen => true
  | .addN, .addN => true
  | .clr a b c, .clr x y z => Nat.beq a x && beqDs b y && (c == z)
  | _, _ => false
theorem beqF_eq {a b : POp} (h : beqF a b = true) : a = b := by
  cases a <;> cases b <;> simp only [beqF, Bool.and_eq_true, reduceCtorEq, beq_iff_eq] at h <;> first
    | rfl
    | (obtain ⟨⟨h1, h2⟩, h3⟩ := h
       first
        | (rw [Nat.eq_of_beq_eq_true h1, Nat.eq_of_beq_eq_true h2, Nat.eq_of_beq_eq_true h3])
        | (rw [Nat.eq_of_beq_eq_true h1, Nat.eq_of_beq_eq_true h2, h3])
        | (rw [Nat.eq_of_beq_eq_true h1, h2, h3])
        | (rw [beqDs_eq _ _ h1, Nat.eq_of_beq_eq_true h2, h3])
        | (rw [Nat.eq_of_beq_eq_true h1, beqDs_eq _ _ h2, h3]))
    | (obtain ⟨h1, h2⟩ := h
       first
        | (rw [Nat.eq_of_beq_eq_true h1, Nat.eq_of_beq_eq_true h2])
        | (rw [Nat.eq_of_beq_eq_true h1, h2]))
    | (rw [Nat.eq_of_beq_eq_true h])
    | (simp at h; done)
def beqC : Cop → Cop → Bool
  | .bin a, .bin b => decide (a = b)
  | .no, .no => true
  | .conv a, .conv b => decide (a = b)
  | .mx a, .mx b => a == b
  | .text, .text => true
  | .isNil a b, .isNil c d => (a == c) && (b == d)
  | .mget a, .mget b => beqD a b
  | .mhas, .mhas => true
  | .mput, .mput => true
  | .slen, .slen => true
  | .sidx, .sidx => true
  | .ssl a b, .ssl c d => (a == c) && (b == d)
  | .neg, .neg => true
  | .pop a, .pop b => beqF a b
  | _, _ => false
theorem beqC_eq {a b : Cop} (h : beqC a b = true) : a = b := by
  cases a <;> cases b <;> simp only [beqC, Bool.and_eq_true, reduceCtorEq, beq_iff_eq, decide_eq_true_eq] at h <;> first
    | rfl
    | (rw [h])
    | (rw [h.1, h.2])
    | (rw [beqD_eq _ _ h])
    | (rw [beqF_eq h])
    | (simp at h; done)
def beqXx : X → X → Bool
  | .normal, .normal => true
  | .ret, .ret => true
  | .exit a, .exit b => Nat.beq a b
  | _, _ => false
theorem beqXx_eq {a b : X} (h : beqXx a b = true) : a = b := by
  cases a <;> cases b <;> simp only [beqXx, reduceCtorEq] at h <;> first | rfl | (rw [Nat.eq_of_beq_eq_true h]) | (simp at h; done)
def beqT2 : T → T → Bool
  | .fin x as, .fin y bs => beqXx x y && beqAs as bs
  | .op o as k, .op p bs q => beqC o p && beqAs as bs && beqT2 k q
  | .call f as n k, .call g bs m q => Nat.beq f g && beqAs as bs && Nat.beq n m && beqT2 k q
  | .callv fl g as n k, .callv fl' g' bs m q => beqNats fl fl' && beqA g g' && beqAs as bs && Nat.beq n m && beqT2 k q
  | .ite a t e, .ite b u f => beqA a b && beqT2 t u && beqT2 e f
  | .bind x t n k, .bind y u m q => beqXx x y && beqT2 t u && Nat.beq n m && beqT2 k q
  | .loop as b, .loop bs c => beqAs as bs && beqT2 b c
  | _, _ => false
theorem beqT2_eq : ∀ {a b : T}, beqT2 a b = true → a = b
  | .fin x as, b, h => by
    cases b <;> simp only [beqT2, Bool.and_eq_true, reduceCtorEq] at h
    rw [beqXx_eq h.1, beqAs_eq h.2]
  | .op o as k, b, h => by
    cases b <;> simp only [beqT2, Bool.and_eq_true, reduceCtorEq] at h
    rw [beqC_eq h.1.1, beqAs_eq h.1.2, beqT2_eq h.2]
  | .call f as n k, b, h => by
    cases b <;> simp only [beqT2, Bool.and_eq_true, reduceCtorEq] at h
    rw [Nat.eq_of_beq_eq_true h.1.1.1, beqAs_eq h.1.1.2, Nat.eq_of_beq_eq_true h.1.2, beqT2_eq h.2]
  | .callv fl g as n k, b, h => by
    cases b <;> simp only [beqT2, Bool.and_eq_true, reduceCtorEq] at h
    rw [beqNats_eq h.1.1.1.1, beqA_eq h.1.1.1.2, beqAs_eq h.1.1.2, Nat.eq_of_beq_eq_true h.1.2, beqT2_eq h.2]
  | .ite a t e, b, h => by
    cases b <;> simp only [beqT2, Bool.and_eq_true, reduceCtorEq] at h
    rw [beqA_eq h.1.1, beqT2_eq h.1.2, beqT2_eq h.2]
  | .bind x t n k, b, h => by
    cases b <;> simp only [beqT2, Bool.and_eq_true, reduceCtorEq] at h
    rw [beqXx_eq h.1.1.1, beqT2_eq h.1.1.2, Nat.eq_of_beq_eq_true h.1.2, beqT2_eq h.2]
  | .loop as c, b, h => by
    cases b <;> simp only [beqT2, Bool.and_eq_true, reduceCtorEq] at h
    rw [beqAs_eq h.1, beqT2_eq h.2]
def trOf (P : Program) (C : Cfg) (f : Nat) : Option (Nat × T) := (sfun P C f).bind fun r => (toT P r.2).map fun t => (r.1, t)
def isTr (P : Program) (C : Cfg) (f n : Nat) (t : T) : Bool :=
  match trOf P C f with
  | some (m, u) => Nat.beq m n && beqT2 u t
  | none => false
theorem isTr_ok {P : Program} {C : Cfg} {f n : Nat} {t : T} (h : isTr P C f n t = true) : ∃ e, sfun P C f = some (n, e) ∧ toT P e = some t := by
  unfold isTr at h
  split at h
  · rename_i m u hu
    simp only [Bool.and_eq_true] at h
    obtain rfl := Nat.eq_of_beq_eq_true h.1
    obtain rfl := beqT2_eq h.2
    obtain ⟨⟨m', e⟩, h1, h2⟩ := Option.bind_eq_some_iff.1 hu
    obtain ⟨t', h3, h4⟩ := Option.map_eq_some_iff.1 h2
    simp only [Prod.mk.injEq] at h4
    obtain ⟨rfl, rfl⟩ := h4
    exact ⟨e, h1, h3⟩
  · simp at h
def fnT (l : List (Nat × Nat × T)) (x : Nat → List D → Option (List D)) : FnT := ⟨fun f => l.lookup f, x⟩
def fnS (P : Program) (C : Cfg) (l : List (Nat × Nat × T)) (x : Nat → List D → Option (List D)) : Fns := ⟨fun f => if (l.lookup f).isSome then sfun P C f else none, x⟩
theorem are_of {P : Program} {C : Cfg} {l : List (Nat × Nat × T)} {x : Nat → List D → Option (List D)} (h : ∀ p ∈ l, isTr P C p.1 p.2.1 p.2.2 = true) : Are P (fnS P C l x) (fnT l x) := by
  refine ⟨fun f n t hf => ?_, fun f hf => ?_, fun f ds rs hx => hx⟩
  · have hf' : l.lookup f = some (n, t) := hf
    have hm := mem_lookup hf'
    obtain ⟨e, h1, h2⟩ := isTr_ok (h _ hm)
    exact ⟨e, by simp only [fnS, hf', Option.isSome_some, if_true]; exact h1, h2⟩
  · have hf' : l.lookup f = none := hf
    simp [fnS, hf']
theorem Cv_ok {P : Program} {C : Cfg} (hN : Named P) (hR : RegsP P) (hm : P.follows .mixedOrders = true) (hC : ∀ f, C.clones.contains f = true → Clones P f) (hS : ∀ f, C.clones.contains f = true → ∃ sg, C.sig f = some sg ∧ sg.io = false)
    {l : List (Nat × Nat × T)} {x : Nat → List D → Option (List D)} (h : ∀ p ∈ l, isTr P C p.1 p.2.1 p.2.2 = true) (hx : ∀ f ds rs, x f ds = some rs → FnOk P C f ds rs ∧ isBody P f = true) {f : Nat} {ds rs : List D} (hv : Cv (fnT l x) f ds rs) : FnOk P C f ds rs := by
  obtain ⟨k, hk⟩ := Cv_sound (are_of (C := C) h) hv
  refine trees_ok hN hR hm hC hS (fun f n t hf => ?_) hx hk
  simp only [fnS] at hf
  split at hf
  · exact hf
  · simp at hf
mutual
def evT (F : FnT) : Nat → T → List D → Option (X × List D)
  | 0, _, _ => none
  | k + 1, t, env =>
    match t with
    | .fin x as => (atsD env as).map fun ds => (x, ds)
    | .op o as q => match (atsD env as).bind (copD o) with
      | some d => evT F k q (env ++ [d])
      | none => none
    | .call f as n q => match atsD env as with
      | some ds => match cvT F k f ds with
        | some rs => if Nat.beq rs.length n then evT F k q (env ++ rs) else none
        | none => none
      | none => none
    | .callv fl g as n q => match atD env g, atsD env as with
      | some (.fn f caps), some ds => if fl.contains f then match cvT F k f (ds ++ caps) with
          | some rs => if Nat.beq rs.length n then evT F k q (env ++ rs) else none
          | none => none
        else none
      | _, _ => none
    | .ite a t e => match atD env a with
      | some (.bool true) => evT F k t env
      | some (.bool false) => evT F k e env
      | _ => none
    | .bind x t n q => match evT F k t env with
      | some (y, ds) => if beqXx y x then (if Nat.beq ds.length n then evT F k q (env ++ ds) else none) else some (y, ds)
      | none => none
    | .loop as b => match atsD env as with
      | some ds => lvT F k b env ds
      | none => none
def lvT (F : FnT) : Nat → T → List D → List D → Option (X × List D)
  | 0, _, _, _ => none
  | k + 1, b, env, ds =>
    match evT F k b (env ++ ds) with
    | some (.normal, ds') => if Nat.beq ds'.length ds.length then lvT F k b env ds' else none
    | r => r
def cvT (F : FnT) : Nat → Nat → List D → Option (List D)
  | 0, _, _ => none
  | k + 1, f, ds =>
    match F.t f with
    | some (n, t) => if Nat.beq ds.length n then match evT F k t ds with
        | some (.ret, rs) => some rs
        | _ => none
      else none
    | none => F.x f ds
end
theorem run_ok {F : FnT} : ∀ (k : Nat), (∀ t env x rs, evT F k t env = some (x, rs) → R F t env x rs) ∧ (∀ b env ds x rs, lvT F k b env ds = some (x, rs) → L F b env ds x rs) ∧ ∀ f ds rs, cvT F k f ds = some rs → Cv F f ds rs
  | 0 => ⟨fun t env x rs h => by simp [evT] at h, fun b env ds x rs h => by simp [lvT] at h, fun f ds rs h => by simp [cvT] at h⟩
  | k + 1 => by
    obtain ⟨i1, i2, i3⟩ := run_ok (F := F) k
    refine ⟨fun t env x rs h => ?_, fun b env ds x rs h => ?_, fun f ds rs h => ?_⟩
    · cases t with
      | fin y as =>
        simp only [evT] at h
        obtain ⟨ds, h1, h2⟩ := Option.map_eq_some_iff.1 h
        simp only [Prod.mk.injEq] at h2
        obtain ⟨rfl, rfl⟩ := h2
        exact .fin h1
      | op o as q =>
        simp only [evT] at h
        split at h
        · rename_i d hd
          obtain ⟨ds, h1, h2⟩ := Option.bind_eq_some_iff.1 hd
          exact .op h1 h2 (i1 _ _ _ _ h)
        · simp at h
      | call f as n q =>
        simp only [evT] at h
        split at h
        · rename_i ds hd
          split at h
          · rename_i qs hq
            split at h
            · rename_i hn
              exact .call hd (i3 _ _ _ hq) (Nat.eq_of_beq_eq_true hn) (i1 _ _ _ _ h)
            · simp at h
          · simp at h
        · simp at h
      | callv fl g as n q =>
        simp only [evT] at h
        split at h
        · rename_i f caps ds hg hd
          split at h
          · rename_i hf
            split at h
            · rename_i qs hq
              split at h
              · rename_i hn
                exact .callv hg hd hf (i3 _ _ _ hq) (Nat.eq_of_beq_eq_true hn) (i1 _ _ _ _ h)
              · simp at h
            · simp at h
          · simp at h
        · simp at h
      | ite a t e =>
        simp only [evT] at h
        split at h
        · rename_i ha
          exact .iteT ha (i1 _ _ _ _ h)
        · rename_i ha
          exact .iteF ha (i1 _ _ _ _ h)
        · simp at h
      | bind y t n q =>
        simp only [evT] at h
        split at h
        · rename_i z ds hz
          split at h
          · rename_i hy
            obtain rfl := beqXx_eq hy
            split at h
            · rename_i hn
              exact .bindO (i1 _ _ _ _ hz) (Nat.eq_of_beq_eq_true hn) (i1 _ _ _ _ h)
            · simp at h
          · rename_i hy
            simp only [Option.some.injEq, Prod.mk.injEq] at h
            obtain ⟨rfl, rfl⟩ := h
            refine .bindP (i1 _ _ _ _ hz) fun e => hy ?_
            subst e
            cases z <;> simp [beqXx]
        · simp at h
      | loop as b =>
        simp only [evT] at h
        split at h
        · rename_i ds hd
          exact .loop hd (i2 _ _ _ _ _ h)
        · simp at h
    · simp only [lvT] at h
      split at h
      · rename_i ds' hd
        split at h
        · rename_i hn
          exact .more (i1 _ _ _ _ hd) (Nat.eq_of_beq_eq_true hn) (i2 _ _ _ _ _ h)
        · simp at h
      · rename_i hn
        refine .out (i1 _ _ _ _ h) fun e => ?_
        subst e
        exact hn _ h
    · simp only [cvT] at h
      split at h
      · rename_i n t hf
        split at h
        · rename_i hn
          split at h
          · rename_i rs' he
            obtain rfl := Option.some.inj h
            exact .tree hf (Nat.eq_of_beq_eq_true hn) (i1 _ _ _ _ he)
          · simp at h
        · simp at h
      · rename_i hf
        exact .known hf h
def runs (F : FnT) (k f : Nat) (ds rs : List D) : Bool :=
  match cvT F k f ds with
  | some qs => beqDs qs rs
  | none => false
theorem runs_ok {F : FnT} {k f : Nat} {ds rs : List D} (h : runs F k f ds rs = true) : Cv F f ds rs := by
  unfold runs at h
  split at h
  · rename_i qs hq
    have := beqDs_eq _ _ h
    subst this
    exact (run_ok k).2.2 _ _ _ hq
  · simp at h
end Go.Proofs.YtjofhegodknmaaaGreat.W
namespace Go.Proofs.YtjofhegodknmaaaGreat.W
open Go Go.RowKit
open V hiding At
theorem wrap64 {n : Int} (h1 : -9223372036854775808 ≤ n) (h2 : n ≤ 9223372036854775807) : IntKind.i64.wrap n = n := by
  rw [wr_i64]; omega
theorem lssT {m n : Int} (h : m < n) : copD (.bin .lss) [.int .i64 m, .int .i64 n] = some (.bool true) := by simp [copD, binD, shiftOp, cmpI, h]
theorem lssF {m n : Int} (h : n ≤ m) : copD (.bin .lss) [.int .i64 m, .int .i64 n] = some (.bool false) := by simp [copD, binD, shiftOp, cmpI, h]
theorem geqF {m n : Int} (h : m < n) : copD (.bin .geq) [.int .i64 m, .int .i64 n] = some (.bool false) := by simp [copD, binD, shiftOp, cmpI, h]
theorem addI {m n r : Int} (h : r = m + n) (h1 : -9223372036854775808 ≤ r) (h2 : r ≤ 9223372036854775807) : copD (.bin .add) [.int .i64 m, .int .i64 n] = some (.int .i64 r) := by
  subst h; simp [copD, binD, shiftOp, cmpI, ariI, wrap64 h1 h2]
theorem mxI_ge {m n : Int} (h : n ≤ m) : copD (.mx true) [.int .i64 m, .int .i64 n] = some (.int .i64 m) := by
  have : ¬ m < n := by omega
  simp [copD, this]
theorem eltI {l : List D} {n : Nat} {d : D} {e : Nat} {i : Int} (hi : i = n) (h : l[n]? = some d) (hd : d.cells.length = e) : copD (.pop (.elt e)) [.lst l, .int .i64 i] = some d := by
  subst hi
  simp [copD, freeP, popD, h, hd, bnat]
theorem lenI {l : List D} {n : Int} (h : (l.length : Int) = n) : copD (.pop .len) [.lst l] = some (.int .i64 n) := by
  subst h; rfl
theorem cellI {l : List D} {i n : Nat} {d : D} (h : l[i]? = some d) (hn : l.length = n) (ho : l.all D.one = true) : copD (.pop (.cell i n)) [.agg l] = some d := by
  have e : (D.agg l).cells = l := rfl
  simp only [copD, freeP, if_true, popD, e, hn, bnat, ho, Bool.and_self, h]
end Go.Proofs.YtjofhegodknmaaaGreat.W
namespace Go.Proofs.YtjofhegodknmaaaGreat.W
open Go Go.RowKit
open V hiding At
def atR (m : Nat) (r : List D) : At → Option D
  | .v i => bif Nat.blt i m then r[m - 1 - i]? else none
  | .c d => some d
def atsR (m : Nat) (r : List D) : List At → Option (List D)
  | [] => some []
  | a :: q =>
    match atR m r a, atsR m r q with
    | some d, some l => some (d :: l)
    | _, _ => none
def pushR : List D → List D → List D
  | [], r => r
  | d :: q, r => pushR q (d :: r)
theorem pushR_eq : ∀ (q r : List D), pushR q r = q.reverse ++ r
  | [], r => rfl
  | d :: q, r => by simp [pushR, pushR_eq q]
structure Wp (F : FnT) (t : T) (m : Nat) (r : List D) (Q : X → List D → Prop) : Prop where
  len : r.length = m
  ex : ∃ x rs, R F t r.reverse x rs ∧ Q x rs
section
variable {F : FnT} {m n : Nat} {r r' ds qs : List D} {Q : X → List D → Prop}
theorem atR_eq (h : r.length = m) {a : At} {d : D} (ha : atR m r a = some d) : atD r.reverse a = some d := by
  cases a with
  | c e => exact ha
  | v i =>
    simp only [atR] at ha
    simp only [atD]
    cases hb : Nat.blt i m with
    | false => simp [hb] at ha
    | true =>
      rw [hb] at ha
      have hi : i < m := Nat.lt_of_lt_of_le (Nat.lt_succ_self i) (Nat.le_of_ble_eq_true hb)
      rw [List.getElem?_reverse (by omega), h]
      exact ha
theorem atsR_eq (h : r.length = m) : ∀ {as : List At} {ds : List D}, atsR m r as = some ds → atsD r.reverse as = some ds
  | [], ds, ha => by simpa [atsR, atsD] using ha
  | a :: as, ds, ha => by
    simp only [atsR] at ha
    split at ha
    · rename_i d l h1 h2
      obtain rfl := Option.some.inj ha
      exact atsD_mk (atR_eq h h1) (atsR_eq h h2)
    · simp at ha
theorem rev_cons (d : D) (r : List D) : r.reverse ++ [d] = (d :: r).reverse := by simp
theorem rev_push (q r : List D) : r.reverse ++ q = (pushR q r).reverse := by simp [pushR_eq]
theorem len_push (q r : List D) : (pushR q r).length = r.length + q.length := by simp [pushR_eq, Nat.add_comm]
end
section
variable {F : FnT} {m n : Nat} {r r' ds qs : List D} {Q : X → List D → Prop} {as : List At} {k t e : T} {x : X} {d : D}
theorem Wp.fin (hl : r.length = m) (h : atsR m r as = some ds) (q : Q x ds) : Wp F (.fin x as) m r Q := ⟨hl, x, ds, .fin (atsR_eq hl h), q⟩
theorem Wp.op {o : Cop} (h : atsR m r as = some ds) (h1 : copD o ds = some d) (hk : Wp F k (m + 1) (d :: r) Q) : Wp F (.op o as k) m r Q := by
  have hl : r.length = m := by have := hk.len; simp at this; omega
  obtain ⟨y, rs, h2, h3⟩ := hk.ex
  exact ⟨hl, y, rs, .op (atsR_eq hl h) h1 (by rw [rev_cons]; exact h2), h3⟩
theorem Wp.call {f : Nat} (h : atsR m r as = some ds) (h1 : Cv F f ds qs) (hn : qs.length = n) (he : pushR qs r = r') (hk : Wp F k (m + n) r' Q) : Wp F (.call f as n k) m r Q := by
  subst he
  have hl : r.length = m := by have := hk.len; rw [len_push] at this; omega
  obtain ⟨y, rs, h2, h3⟩ := hk.ex
  exact ⟨hl, y, rs, .call (atsR_eq hl h) h1 hn (by rw [rev_push]; exact h2), h3⟩
theorem Wp.callv {f : Nat} {fl : List Nat} {g : At} {caps : List D} (h : atR m r g = some (.fn f caps)) (h0 : atsR m r as = some ds) (hf : fl.contains f = true) (h1 : Cv F f (ds ++ caps) qs) (hn : qs.length = n) (he : pushR qs r = r') (hk : Wp F k (m + n) r' Q) : Wp F (.callv fl g as n k) m r Q := by
  subst he
  have hl : r.length = m := by have := hk.len; rw [len_push] at this; omega
  obtain ⟨y, rs, h2, h3⟩ := hk.ex
  exact ⟨hl, y, rs, .callv (atR_eq hl h) (atsR_eq hl h0) hf h1 hn (by rw [rev_push]; exact h2), h3⟩
theorem Wp.iteT {a : At} (h : atR m r a = some (.bool true)) (h1 : Wp F t m r Q) : Wp F (.ite a t e) m r Q := by
  obtain ⟨y, rs, h2, h3⟩ := h1.ex
  exact ⟨h1.len, y, rs, .iteT (atR_eq h1.len h) h2, h3⟩
theorem Wp.iteF {a : At} (h : atR m r a = some (.bool false)) (h1 : Wp F e m r Q) : Wp F (.ite a t e) m r Q := by
  obtain ⟨y, rs, h2, h3⟩ := h1.ex
  exact ⟨h1.len, y, rs, .iteF (atR_eq h1.len h) h2, h3⟩
theorem Wp.ite {a : At} {b : Bool} (h : atR m r a = some (.bool b)) (h1 : b = true → Wp F t m r Q) (h2 : b = false → Wp F e m r Q) : Wp F (.ite a t e) m r Q := by
  cases b with
  | true => exact .iteT h (h1 rfl)
  | false => exact .iteF h (h2 rfl)
theorem Wp.iteP {a : At} {p : Prop} [Decidable p] (h : atR m r a = some (.bool (decide p))) (h1 : p → Wp F t m r Q) (h2 : ¬p → Wp F e m r Q) : Wp F (.ite a t e) m r Q := by
  by_cases hp : p
  · rw [decide_eq_true hp] at h; exact .iteT h (h1 hp)
  · rw [decide_eq_false hp] at h; exact .iteF h (h2 hp)
theorem Wp.bindJ (J : List D → Prop) (h : Wp F t m r (fun y qs => (y = x ∧ qs.length = n ∧ J qs) ∨ (y ≠ x ∧ Q y qs))) (hk : ∀ qs, qs.length = n → J qs → Wp F k (m + n) (pushR qs r) Q) : Wp F (.bind x t n k) m r Q := by
  obtain ⟨y, rs, h2, h3⟩ := h.ex
  rcases h3 with ⟨rfl, h4, h5⟩ | ⟨h4, h5⟩
  · have hk := hk rs h4 h5
    obtain ⟨z, us, h6, h7⟩ := hk.ex
    exact ⟨h.len, z, us, .bindO h2 h4 (by rw [rev_push]; exact h6), h7⟩
  · exact ⟨h.len, y, rs, .bindP h2 h4, h5⟩
theorem Wp.bind (h : Wp F t m r (fun y qs => (y = x ∧ qs.length = n ∧ Wp F k (m + n) (pushR qs r) Q) ∨ (y ≠ x ∧ Q y qs))) : Wp F (.bind x t n k) m r Q := by
  obtain ⟨y, rs, h2, h3⟩ := h.ex
  rcases h3 with ⟨rfl, h4, h5⟩ | ⟨h4, h5⟩
  · obtain ⟨z, us, h6, h7⟩ := h5.ex
    exact ⟨h.len, z, us, .bindO h2 h4 (by rw [rev_push]; exact h6), h7⟩
  · exact ⟨h.len, y, rs, .bindP h2 h4, h5⟩
theorem Wp.bind1 (qs : List D) (h : Wp F t m r (fun y rs => y = x ∧ rs = qs)) (hn : qs.length = n) (he : pushR qs r = r') (hk : Wp F k (m + n) r' Q) : Wp F (.bind x t n k) m r Q :=
  .bindJ (fun rs => rs = qs) ⟨h.len, h.ex.elim fun y h => h.elim fun rs h => ⟨y, rs, h.1, .inl ⟨h.2.1, by rw [h.2.2]; exact hn, h.2.2⟩⟩⟩ fun rs _ h => by subst h; rw [he]; exact hk
theorem Wp.mono {Q' : X → List D → Prop} (h : Wp F t m r Q') (hq : ∀ x rs, Q' x rs → Q x rs) : Wp F t m r Q := by
  obtain ⟨y, rs, h2, h3⟩ := h.ex
  exact ⟨h.len, y, rs, h2, hq _ _ h3⟩
theorem Wp.loop (I : Nat → List D → Prop) {j : Nat} {b : T} (hl : r.length = m) (h : atsR m r as = some ds) (h0 : I j ds) (hb : ∀ i ds, I i ds → Wp F b (m + ds.length) (pushR ds r) (fun y qs => (y = .normal ∧ qs.length = ds.length ∧ ∃ i', i' < i ∧ I i' qs) ∨ (y ≠ .normal ∧ Q y qs))) : Wp F (.loop as b) m r Q := by
  have key : ∀ (i : Nat) ds, I i ds → ∃ x rs, L F b r.reverse ds x rs ∧ Q x rs := by
    intro i
    induction i using Nat.strongRecOn with
    | _ i ih =>
      intro ds hd
      obtain ⟨y, rs, h2, h3⟩ := (hb i ds hd).ex
      rw [← rev_push] at h2
      rcases h3 with ⟨rfl, h4, i', h5, h6⟩ | ⟨h4, h5⟩
      · obtain ⟨x, us, h7, h8⟩ := ih i' h5 rs h6
        exact ⟨x, us, .more h2 h4 h7, h8⟩
      · exact ⟨y, rs, .out h2 h4, h5⟩
  obtain ⟨x, rs, h1, h2⟩ := key j ds h0
  exact ⟨hl, x, rs, .loop (atsR_eq hl h) h1, h2⟩
def Wl (F : FnT) (b : T) (m : Nat) (r ds : List D) (Q : X → List D → Prop) : Prop := ∃ x rs, L F b r.reverse ds x rs ∧ Q x rs
theorem Wl.step {b : T} (h : Wp F b (m + ds.length) (pushR ds r) (fun y qs => (y = .normal ∧ qs.length = ds.length ∧ Wl F b m r qs Q) ∨ (y ≠ .normal ∧ Q y qs))) : Wl F b m r ds Q := by
  obtain ⟨y, rs, h2, h3⟩ := h.ex
  rw [← rev_push] at h2
  rcases h3 with ⟨rfl, h4, x, us, h5, h6⟩ | ⟨h4, h5⟩
  · exact ⟨x, us, .more h2 h4 h5, h6⟩
  · exact ⟨y, rs, .out h2 h4, h5⟩
theorem Wl.mono {b : T} {Q' : X → List D → Prop} (h : Wl F b m r ds Q') (hq : ∀ x rs, Q' x rs → Q x rs) : Wl F b m r ds Q := by
  obtain ⟨y, rs, h2, h3⟩ := h
  exact ⟨y, rs, h2, hq _ _ h3⟩
theorem Wp.rounds {b : T} (hl : r.length = m) (h : atsR m r as = some ds) (hw : Wl F b m r ds Q) : Wp F (.loop as b) m r Q := by
  obtain ⟨x, rs, h1, h2⟩ := hw
  exact ⟨hl, x, rs, .loop (atsR_eq hl h) h1, h2⟩
theorem Cv.wp {f : Nat} {P : List D → Prop} (h : F.t f = some (n, t)) (hn : ds.length = n) (he : pushR ds [] = r') (h1 : Wp F t n r' (fun y rs => y = .ret ∧ P rs)) : ∃ rs, Cv F f ds rs ∧ P rs := by
  obtain ⟨y, rs, h2, rfl, h4⟩ := h1.ex
  subst he
  refine ⟨rs, .tree h hn ?_, h4⟩
  have := rev_push ds []
  simp only [List.reverse_nil, List.nil_append] at this
  rw [this]
  exact h2
theorem Cv.wp1 {f : Nat} {rs : List D} (h : F.t f = some (n, t)) (hn : ds.length = n) (he : pushR ds [] = r') (h1 : Wp F t n r' (fun y qs => y = .ret ∧ qs = rs)) : Cv F f ds rs := by
  obtain ⟨qs, h2, rfl⟩ := Cv.wp (P := fun qs => qs = rs) h hn he h1
  exact h2
end
end Go.Proofs.YtjofhegodknmaaaGreat.W
namespace Go.Proofs.YtjofhegodknmaaaGreat.W
open Go Go.RowKit
open V hiding At
theorem subI {m n r : Int} (h : r = m - n) (h1 : -9223372036854775808 ≤ r) (h2 : r ≤ 9223372036854775807) : copD (.bin .sub) [.int .i64 m, .int .i64 n] = some (.int .i64 r) := by
  subst h; simp [copD, binD, shiftOp, cmpI, ariI, wrap64 h1 h2]
theorem eqlD (m n : Int) : copD (.bin .eql) [.int .i64 m, .int .i64 n] = some (.bool (decide (m = n))) := rfl
theorem convI {k : IntKind} {n : Int} (j : IntKind) (h : j.wrap n = n) : copD (.conv j) [.int k n] = some (.int j n) := by simp [copD, h]
theorem noI (b : Bool) : copD .no [.bool b] = some (.bool (!b)) := rfl
theorem gtrK {k : IntKind} (m n : Int) : copD (.bin .gtr) [.int k m, .int k n] = some (.bool (decide (n < m))) := by simp [copD, binD, shiftOp, cmpI]
theorem eqlK {k : IntKind} (m n : Int) : copD (.bin .eql) [.int k m, .int k n] = some (.bool (decide (m = n))) := by simp [copD, binD, shiftOp, cmpI]; rfl
theorem gtrKF {k : IntKind} {m n : Int} (h : m ≤ n) : copD (.bin .gtr) [.int k m, .int k n] = some (.bool false) := by rw [gtrK, decide_eq_false (by omega)]
theorem eqlKF {k : IntKind} {m n : Int} (h : m ≠ n) : copD (.bin .eql) [.int k m, .int k n] = some (.bool false) := by simp [copD, binD, shiftOp, cmpI, h]
theorem eqlKT {k : IntKind} {m n : Int} (h : m = n) : copD (.bin .eql) [.int k m, .int k n] = some (.bool true) := by simp [copD, binD, shiftOp, cmpI, h]
theorem neqKF {k : IntKind} {m n : Int} (h : m = n) : copD (.bin .neq) [.int k m, .int k n] = some (.bool false) := by simp [copD, binD, shiftOp, cmpI, h]
theorem wrU64 {n : Int} (h1 : 0 ≤ n) (h2 : n ≤ 18446744073709551615) : IntKind.u64.wrap n = n := by rw [wr_u64]; omega
theorem wrU8 {n : Int} (h1 : 0 ≤ n) (h2 : n ≤ 255) : IntKind.u8.wrap n = n := by rw [wr_u8]; omega
theorem addU8 {m n r : Int} (h : r = m + n) (h1 : 0 ≤ r) (h2 : r ≤ 255) : copD (.bin .add) [.int .u8 m, .int .u8 n] = some (.int .u8 r) := by
  subst h; simp [copD, binD, shiftOp, cmpI, ariI, wrU8 h1 h2]
theorem wrI16 {n : Int} (h1 : -32768 ≤ n) (h2 : n ≤ 32767) : IntKind.i16.wrap n = n := by rw [wr_i16]; omega
theorem strNeqF (s : ByteArray) : copD (.bin .neq) [.str s, .str s] = some (.bool false) := by simp [copD, binD]
theorem catL {e b : Nat} {ag : Bool} {l r : List D} (hr : r.all (rowOk e ag) = true) (hs : (l.length + r.length) * b ≤ 140737488355328) : copD (.pop (.cat e b ag)) [.lst l, .lst r] = some (.lst (l ++ r)) := by
  cases r with
  | nil => simp [copD, freeP, popD, lstOf, srcD]
  | cons x r =>
    have h2 : Nat.ble ((l.length + (x :: r).length) * b) 140737488355328 = true := Nat.ble_eq_true_of_le hs
    simp only [copD, freeP, if_true, popD, lstOf, srcD, List.isEmpty_cons, Bool.false_eq_true, if_false, hr, h2, Bool.and_self]
theorem catN {e b : Nat} {ag : Bool} {r : List D} (hn : r ≠ []) (hr : r.all (rowOk e ag) = true) (hs : r.length * b ≤ 140737488355328) : copD (.pop (.cat e b ag)) [.nil, .lst r] = some (.lst r) := by
  cases r with
  | nil => exact absurd rfl hn
  | cons x r =>
    have h2 : Nat.ble (([] : List D).length + (x :: r).length) 140737488355328 = true ∨ True := .inr trivial
    have h3 : Nat.ble ((([] : List D).length + (x :: r).length) * b) 140737488355328 = true := Nat.ble_eq_true_of_le (by simpa using hs)
    simp only [copD, freeP, if_true, popD, lstOf, srcD, List.isEmpty_cons, Bool.false_eq_true, if_false, hr, h3, Bool.and_self, List.nil_append]
theorem slcL {e : Nat} {l : List D} {a b : Nat} {i j : Int} (hi : i = a) (hj : j = b) (h1 : a ≤ b) (h2 : b ≤ l.length) (hc : l.all (fun d => Nat.beq d.cells.length e) = true) : copD (.pop (.slc e true true)) [.lst l, .int .i64 i, .int .i64 j] = some (.lst ((l.take b).drop a)) := by
  subst hi hj
  have e1 : Nat.ble a b = true := Nat.ble_eq_true_of_le h1
  have e2 : Nat.ble b l.length = true := Nat.ble_eq_true_of_le h2
  simp [copD, freeP, popD, boundD, e1, e2, hc]
theorem upd1 {l : List D} {d : D} {n : Nat} {i : Int} (hi : i = n) (hn : n < l.length) (hc : l.all (fun d => Nat.beq d.cells.length 1) = true) (ho : d.one = true) : copD (.pop (.upd 1 0 false)) [.lst l, .int .i64 i, d] = some (.lst (l.set n d)) := by
  subst hi
  obtain ⟨c, h⟩ : ∃ d, l[n]? = some d := ⟨l[n], List.getElem?_eq_getElem hn⟩
  have h5 : Nat.beq c.cells.length 1 = true := List.all_eq_true.1 hc c (List.mem_of_getElem? h)
  have h8 : List.drop (0 + 1) c.cells = [] := List.drop_eq_nil_of_le (by rw [Nat.eq_of_beq_eq_true h5]; exact Nat.le_refl _)
  have h7 : Nat.ble (0 + [d].length) 1 = true := rfl
  simp only [copD, freeP, if_true, popD, Int.toNat_natCast, h, h5, h7, List.all_cons, List.all_nil, ho, Bool.and_true, decide_eq_true_eq, List.length_cons, List.length_nil, Nat.zero_add]
  have h0 : (0 : Int) ≤ (n : Int) := by omega
  simp [h0]
theorem all_map {α : Type} {l : List α} {f : α → D} {p : D → Bool} (h : ∀ a, p (f a) = true) : (l.map f).all p = true := by
  simp [h]
theorem atR_cons {m m' i : Nat} {e d : D} {r : List D} (h : atR m r (.v i) = some d) (hm : m' = m + 1) : atR m' (e :: r) (.v i) = some d := by
  subst hm
  simp only [atR] at h ⊢
  cases hb : Nat.blt i m with
  | false => rw [hb] at h; simp at h
  | true =>
    rw [hb] at h
    have hi : i < m := Nat.lt_of_lt_of_le (Nat.lt_succ_self i) (Nat.le_of_ble_eq_true hb)
    have hb' : Nat.blt i (m + 1) = true := Nat.ble_eq_true_of_le (by omega)
    rw [hb']
    have e1 : m + 1 - 1 - i = (m - 1 - i) + 1 := by omega
    rw [e1]
    exact h
theorem atsR1 {m : Nat} {r : List D} {a : At} {x : D} (ha : atR m r a = some x) : atsR m r [a] = some [x] := by simp [atsR, ha]
theorem atsR2 {m : Nat} {r : List D} {a b : At} {x y : D} (ha : atR m r a = some x) (hb : atR m r b = some y) : atsR m r [a, b] = some [x, y] := by simp [atsR, ha, hb]
end Go.Proofs.YtjofhegodknmaaaGreat.W
