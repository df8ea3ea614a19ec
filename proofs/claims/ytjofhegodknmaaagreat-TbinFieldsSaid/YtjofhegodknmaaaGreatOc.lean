/- TbinFields: what was read, in order. -/
import Derived.Test.YtjofhegodknmaaaGreatOb
set_option linter.unusedSimpArgs false
set_option linter.unusedVariables false
set_option maxRecDepth 20000
namespace Go.Proofs.YtjofhegodknmaaaGreat.Tbf
open Go Go.RowKit
open W
open V (D)
def qOf (av : Nat → Int) (js : List Nat) : List (Nat × Int) := js.map fun i => (i, av i)
abbrev vD (q : List (Nat × Int)) : D := .agg [n64 12, n64 0, V.txt [], rowN (q.map fun p => el p.2), rowN ((q.map idD).map n64)]
def sD (av : Nat → Int) : D := .agg [n64 12, n64 0, V.txt [], .lst [el (av 0), el (av 1), el (av 2), el (av 3)], .lst [n64 10, n64 20, n64 30, n64 40]]
def perms : List (List Nat) := [[0,1,2,3],[0,1,3,2],[0,2,1,3],[0,2,3,1],[0,3,1,2],[0,3,2,1],[1,0,2,3],[1,0,3,2],[1,2,0,3],[1,2,3,0],[1,3,0,2],[1,3,2,0],[2,0,1,3],[2,0,3,1],[2,1,0,3],[2,1,3,0],[2,3,0,1],[2,3,1,0],[3,0,1,2],[3,0,2,1],[3,1,0,2],[3,1,2,0],[3,2,0,1],[3,2,1,0]]
theorem perms_b : ((List.range 4).all fun a => (List.range 4).all fun b => (List.range 4).all fun c => (List.range 4).all fun d => !([a, b, c, d].isPerm [0, 1, 2, 3]) || perms.contains [a, b, c, d]) = true := by kernel_rfl
theorem perms_all {a b c d : Nat} (ha : a < 4) (hb : b < 4) (hc : c < 4) (hd : d < 4) (h : [a, b, c, d].Perm [0, 1, 2, 3]) : [a, b, c, d] ∈ perms := by
  have := List.all_eq_true.1 (List.all_eq_true.1 (List.all_eq_true.1 (List.all_eq_true.1 perms_b a (List.mem_range.2 ha)) b (List.mem_range.2 hb)) c (List.mem_range.2 hc)) d (List.mem_range.2 hd)
  have h' : [a, b, c, d].isPerm [0, 1, 2, 3] = true := List.isPerm_iff.2 h
  simpa [h'] using this
theorem perms_of {l : List Nat} (h : l.Perm [0, 1, 2, 3]) : l ∈ perms := by
  have hl := h.length_eq
  have hm : ∀ x ∈ l, x < 4 := fun x hx => by
    have := h.mem_iff.1 hx
    simp at this
    omega
  match l, hl, hm, h with
  | [a, b, c, d], _, hm, h => exact perms_all (hm a (by simp)) (hm b (by simp)) (hm c (by simp)) (hm d (by simp)) h
theorem whole_ok {av : Nat → Int} {B : List Int} {n len : Int} {sk : Bool} {js : List Nat} (h : js ∈ perms) : Cv F 52 (rdA B n len [xD, vD (qOf av js), .bool sk]) (rdA B n len []) := by
  refine (run_ok 300).2.2 _ _ _ ?_
  simp only [perms, List.mem_cons, List.not_mem_nil, or_false] at h
  rcases h with rfl | rfl | rfl | rfl | rfl | rfl | rfl | rfl | rfl | rfl | rfl | rfl | rfl | rfl | rfl | rfl | rfl | rfl | rfl | rfl | rfl | rfl | rfl | rfl
  all_goals kernel_rfl
theorem normal_run {av : Nat → Int} {js : List Nat} (h : js ∈ perms) : Cv F 105 [vD (qOf av js)] [sD av, n64 0] := by
  refine (run_ok 2000).2.2 _ _ _ ?_
  simp only [perms, List.mem_cons, List.not_mem_nil, or_false] at h
  rcases h with rfl | rfl | rfl | rfl | rfl | rfl | rfl | rfl | rfl | rfl | rfl | rfl | rfl | rfl | rfl | rfl | rfl | rfl | rfl | rfl | rfl | rfl | rfl | rfl
  all_goals kernel_rfl
theorem len_q {av : Nat → Int} {js : List Nat} (h : js ∈ perms) : js.length = 4 := by
  have : ∀ l ∈ perms, l.length = 4 := by decide
  exact this _ h
theorem cell_vD {q : List (Nat × Int)} {i : Nat} {d : D} (h : [n64 12, n64 0, V.txt [], rowN (q.map fun p => el p.2), rowN ((q.map idD).map n64)][i]? = some d) : copD (.pop (.cell i 5)) [vD q] = some d := by
  have h1 : (rowN (q.map fun p => el p.2)).one = true := by cases q <;> rfl
  have h2 : (rowN ((q.map idD).map n64)).one = true := by cases q <;> rfl
  refine cellI h rfl ?_
  simp only [List.all_cons, h1, h2]
  rfl
theorem agg_vD {q : List (Nat × Int)} : copD (.pop .mkAgg) [n64 12, n64 0, V.txt [], rowN (q.map fun p => el p.2), rowN ((q.map idD).map n64)] = some (vD q) := by
  have h1 : (rowN (q.map fun p => el p.2)).one = true := by cases q <;> rfl
  have h2 : (rowN ((q.map idD).map n64)).one = true := by cases q <;> rfl
  have : [n64 12, n64 0, V.txt [], rowN (q.map fun p => el p.2), rowN ((q.map idD).map n64)].all D.one = true := by
    simp only [List.all_cons, h1, h2]
    rfl
  simp only [copD, freeP, if_true, popD, this]
theorem normal_ok {av : Nat → Int} {B : List Int} {n len : Int} {js : List Nat} (h : js ∈ perms) : Cv F 53 (rdA B n len [vD (qOf av js)]) (sD av :: rdA B n len []) := by
  refine Cv.wp1 rfl rfl rfl ?_
  iterate 5 refine Wp.op rfl (cell_vD rfl) ?_
  refine Wp.call rfl (normal_run h) rfl rfl ?_
  iterate 5 refine Wp.op rfl rfl ?_
  refine Wp.bind1 (rdA B n len []) ?_ rfl rfl ?_
  · refine Wp.op rfl (neqKF rfl) ?_
    refine Wp.iteF rfl ?_
    refine Wp.op rfl (eqlKF (by decide)) ?_
    refine Wp.iteF rfl ?_
    refine Wp.call rfl fails_ok rfl rfl ?_
    exact Wp.fin rfl rfl ⟨rfl, rfl⟩
  exact Wp.fin rfl rfl ⟨rfl, rfl⟩
theorem fields_ok {av : Nat → Int} {B : List Int} {len : Int} {ps : List Pt} {js : List Nat} (hB : B = bytesL ps ++ [0]) (hl : len = B.length) (hb : len ≤ 1000) (hp : ∀ p ∈ ps, p.ok) (hj : ps.filterMap fnum = qOf av js) (h : js ∈ perms) :
    Cv F 18 (rdA B 0 len [xD, n64 1]) (sD av :: rdA B len len []) := by
  refine Cv.wp1 rfl rfl rfl ?_
  iterate 3 refine Wp.op rfl rfl ?_
  refine Wp.op rfl (gtrKF (by decide)) ?_
  refine Wp.call rfl fails_ok rfl rfl ?_
  refine Wp.bindJ (fun qs => ∃ sk, qs = fin18 sk B len len (qOf av js)) ?_ ?_
  · refine Wp.rounds rfl rfl ?_
    have hd : ((([] : List (Nat × Int)) ++ ps.filterMap fnum).map idD).Nodup := by
      have : ∀ l ∈ perms, ((qOf av l).map idD).Nodup := by
        intro l hl
        have e : (qOf av l).map idD = l.map fun i : Nat => 10 * ((i : Int) + 1) := by simp [qOf, idD, Function.comp_def]
        rw [e]
        have : ∀ l ∈ perms, (l.map fun i : Nat => 10 * ((i : Int) + 1)).Nodup := by decide
        exact this l hl
      simpa [hj] using this js h
    have hw := all_rounds (r := pushR (.bool false :: rdA B 0 len []) (pushR (rdA B 0 len [xD, n64 1, n64 4, V.txt [], fldsD]) [])) (B := B) (len := len) rfl hl hb ps [] 0 false [] hp (by simpa using hB) rfl hd (by simp [hj, qOf, len_q (av := av) h])
    refine Wl.mono hw fun y rs hq => .inl ⟨hq.1, ?_⟩
    obtain ⟨sk, hq⟩ := hq.2
    simp only [List.nil_append, hj] at hq
    exact ⟨by rw [hq]; rfl, sk, hq⟩
  rintro qs - ⟨sk, rfl⟩
  refine Wp.op rfl rfl ?_
  refine Wp.op rfl agg_vD ?_
  refine Wp.call rfl (whole_ok h) rfl rfl ?_
  refine Wp.call rfl ok_ok rfl rfl ?_
  refine Wp.op rfl (noI _) ?_
  refine Wp.iteF rfl ?_
  refine Wp.call rfl (normal_ok h) rfl rfl ?_
  iterate 5 refine Wp.op rfl rfl ?_
  exact Wp.fin rfl rfl ⟨rfl, rfl⟩
theorem done_ok {av : Nat → Int} {B : List Int} {n len : Int} : Cv F 19 (rdA B n len [sD av]) (sD av :: n64 n :: n64 0 :: rdA B n len []) := by
  refine Cv.wp1 rfl rfl rfl ?_
  iterate 5 refine Wp.op rfl rfl ?_
  refine Wp.call rfl ok_ok rfl rfl ?_
  refine Wp.op rfl (noI _) ?_
  refine Wp.iteF rfl ?_
  exact Wp.fin rfl rfl ⟨rfl, rfl⟩
theorem decode_ok {av : Nat → Int} {B : List Int} {len : Int} {ps : List Pt} {js : List Nat} (hB : B = bytesL ps ++ [0]) (hl : len = B.length) (hb : len ≤ 1000) (hp : ∀ p ∈ ps, p.ok) (hj : ps.filterMap fnum = qOf av js) (h : js ∈ perms) :
    Cv F 7 [.agg [.nil, .nil, .nil], xD, .lst (B.map u8), .agg [n64 1, n64 len]] [sD av, n64 len, n64 0] := by
  refine Cv.wp1 rfl rfl rfl ?_
  iterate 9 refine Wp.op rfl rfl ?_
  refine Wp.call rfl (fields_ok hB hl hb hp hj h) rfl rfl ?_
  iterate 5 refine Wp.op rfl rfl ?_
  refine Wp.call rfl done_ok rfl rfl ?_
  iterate 5 refine Wp.op rfl rfl ?_
  exact Wp.fin rfl rfl ⟨rfl, rfl⟩
end Go.Proofs.YtjofhegodknmaaaGreat.Tbf
