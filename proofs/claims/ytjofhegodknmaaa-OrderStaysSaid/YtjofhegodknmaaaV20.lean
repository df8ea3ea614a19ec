/- V, 20: runs of code, put together by hand; names and what they stand for. -/
import Derived.Test.YtjofhegodknmaaaV19
set_option linter.unusedSimpArgs false
set_option linter.unusedVariables false
namespace Go.Proofs.Ytjofhegodknmaaa.V
open Go Go.RowKit
def Fresh (s : St) : Prop := ∀ y, s.nx ≤ y → getO s.st y = none
section
variable [Sig] {P : Program} {an : An}
structure Run (P : Program) (c : Code) (s : St) (x : X) (s' : St) : Prop where
  fresh : Fresh s → Fresh s'
  wp : ∀ w F L b0 a, SR w F L b0 (getO s.st) → TR F L s.tm a.tmps → a.defers = [] → Fresh s → b0 ≤ w.heap.size → c.wp P (Post w F L b0 x s') a w
structure LRun (P : Program) (c : Code) (s : St) (x : X) (s' : St) : Prop where
  fresh : Fresh s → Fresh s'
  wp : ∃ n, ∀ w F L b0 a, SR w F L b0 (getO s.st) → TR F L s.tm a.tmps → a.defers = [] → Fresh s → b0 ≤ w.heap.size → Code.rounds P c (Post w F L b0 x s') n a w
theorem Run.of_exec (hN : Good P an) (hR : RegsP P) (hm : P.follows .mixedOrders = true) {k : Nat} {c : Code} {s : St} {x : X} {s' : St} (hg : Regs c) (h : exec P an k c s = some (x, s')) : Run P c s x s' :=
  ⟨exec_fresh h, fun w F L b0 a hS hT hd hf hb => (exec_ok hN hm k fun j _ => pcall_ok hN hR hm j).1 c s x s' w F L b0 a hg h hS hT hd hf hb⟩
theorem Run.seq {c d : Code} {s s1 s' : St} {x : X} (h : Run P c s .normal s1) (h' : Run P d s1 x s') : Run P (.seq c d) s x s' :=
  ⟨fun hf => h'.fresh (h.fresh hf), fun w F L b0 a hS hT hd hf hb => wp_seq (Code.wp_mono (fun e a' w' hp => by
    obtain ⟨rfl, hd', F', L', hE, hS', hT'⟩ := hp
    exact Code.wp_mono (fun e a2 w2 h2 => h2.from hE) (h'.wp w' F' L' b0 a' hS' hT' hd' (h.fresh hf) (Nat.le_trans hb hE.size))) (h.wp w F L b0 a hS hT hd hf hb))⟩
theorem Run.seq_out {c d : Code} {s s' : St} {x : X} (h : Run P c s x s') (hx : x ≠ .normal) : Run P (.seq c d) s x s' :=
  ⟨h.fresh, fun w F L b0 a hS hT hd hf hb => wp_seq (Code.wp_mono (fun e a' w' hp => by
    have h2 := hp
    obtain ⟨rfl, _⟩ := h2
    cases x with
    | normal => exact absurd rfl hx
    | exit id => exact hp
    | ret => exact hp) (h.wp w F L b0 a hS hT hd hf hb))⟩
theorem Run.block {b : Code} {id : Nat} {s s' : St} {x : X} (h : Run P b s x s') : Run P (.block id b) s (if x = .exit id then .normal else x) s' :=
  ⟨h.fresh, fun w F L b0 a hS hT hd hf hb => wp_block (Code.wp_mono (fun e a' w' hp => by
    obtain ⟨rfl, hd', r⟩ := hp
    cases x with
    | normal => exact ⟨rfl, hd', r⟩
    | ret => exact ⟨rfl, hd', r⟩
    | exit j =>
      by_cases e : j = id
      · subst e; simp only [toE, Exit.inBlock, if_pos]; exact ⟨rfl, hd', r⟩
      · have e' : ¬ X.exit j = X.exit id := fun h => e (by injection h)
        simp only [toE, Exit.inBlock, if_neg e, if_neg e']; exact ⟨rfl, hd', r⟩) (h.wp w F L b0 a hS hT hd hf hb))⟩
theorem Run.cond_true {c d : Code} {y : Operand} {s s' : St} {x : X} (hy : evalU s.tm y = some (.dat (.bool true))) (h : Run P c s x s') : Run P (.cond y c d) s x s' :=
  ⟨h.fresh, fun w F L b0 a hS hT hd hf hb => wp_cond (t := true) (by
    have hr := eval_rep hT hy
    generalize a.eval y = z at hr
    cases hr with
    | dat _ _ hr => cases hr; rfl) (h.wp w F L b0 a hS hT hd hf hb)⟩
theorem Run.cond_false {c d : Code} {y : Operand} {s s' : St} {x : X} (hy : evalU s.tm y = some (.dat (.bool false))) (h : Run P d s x s') : Run P (.cond y c d) s x s' :=
  ⟨h.fresh, fun w F L b0 a hS hT hd hf hb => wp_cond (t := false) (by
    have hr := eval_rep hT hy
    generalize a.eval y = z at hr
    cases hr with
    | dat _ _ hr => cases hr; rfl) (h.wp w F L b0 a hS hT hd hf hb)⟩
theorem rounds_mono {c : Code} {Q Q' : Exit → Act → World → Prop} (hq : ∀ e a w, Q e a w → Q' e a w) : ∀ (n : Nat) (a : Act) (w : World), Code.rounds P c Q n a w → Code.rounds P c Q' n a w := by
  have _s : Sig := inferInstance
  intro n
  induction n with
  | zero => intro a w h; exact h
  | succ n ih =>
    intro a w h
    rw [rounds_succ] at h ⊢
    refine Code.wp_mono (fun e a' w' hp => ?_) h
    cases e with
    | normal => exact ih _ _ hp
    | _ => exact hq _ _ _ hp
theorem LRun.step {c : Code} {s s1 s' : St} {x : X} (h : Run P c s .normal s1) (h' : LRun P c s1 x s') : LRun P c s x s' := by
  obtain ⟨n, hn⟩ := h'.wp
  refine ⟨fun hf => h'.fresh (h.fresh hf), n + 1, fun w F L b0 a hS hT hd hf hb => ?_⟩
  rw [rounds_succ]
  refine Code.wp_mono (fun e a' w' hp => ?_) (h.wp w F L b0 a hS hT hd hf hb)
  obtain ⟨rfl, hd', F', L', hE, hS', hT'⟩ := hp
  have := hn w' F' L' b0 a' hS' hT' hd' (h.fresh hf) (Nat.le_trans hb hE.size)
  refine rounds_mono ?_ n a' w' this
  exact fun e a2 w2 h2 => h2.from hE
theorem LRun.out {c : Code} {s s' : St} {x : X} (h : Run P c s x s') (hx : x ≠ .normal) : LRun P c s x s' := by
  refine ⟨h.fresh, 1, fun w F L b0 a hS hT hd hf hb => ?_⟩
  rw [rounds_succ]
  refine Code.wp_mono (fun e a' w' hp => ?_) (h.wp w F L b0 a hS hT hd hf hb)
  have h2 := hp
  obtain ⟨rfl, _⟩ := h2
  cases x with
  | normal => exact absurd rfl hx
  | exit id => exact hp
  | ret => exact hp
theorem Run.loop {c : Code} {s s' : St} {x : X} (h : LRun P c s x s') : Run P (.loop c) s x s' := by
  obtain ⟨n, hn⟩ := h.wp
  exact ⟨h.fresh, fun w F L b0 a hS hT hd hf hb => wp_loop_rounds n (hn w F L b0 a hS hT hd hf hb)⟩
end
section
variable [Sig] {P : Program}
theorem calls_of_run {f : Nat} {fn : Func} {c : Code} (hfn : P.funcs[f]? = some fn) (hc : fn.body = some c) {us0 : List U} {s' : St} {x : X} (h : Run P c ⟨us0 ++ List.replicate (fn.ntmps - us0.length) .undef, [], 0⟩ x s') (hx : x = .normal ∨ x = .ret)
    {us : List U} (hres : fn.results.toList.mapM (resU P (getO s'.st) s'.tm) = some us) {w : World} {F : Mem} {vs : List Value} (hF : ∀ a v, F a = some v → w.cell? a = some v) (hA : Args F none0 us0 vs) :
    Calls P f vs.toArray w fun e w' => ∃ vs' F' L', e = .returned (if h : vs'.toArray.size = 1 then vs'.toArray[0] else .tuple vs'.toArray) ∧ Evo w F none0 w' F' L' ∧ SR w' F' L' w.heap.size (getO s'.st) ∧ Args F' L' us vs' := by
  have hS : SR w F none0 w.heap.size (getO []) := ⟨hF, fun _ _ => rfl, fun o ob h => by simp [getO] at h, fun o o' i i' h => by simp [none0] at h⟩
  refine calls_of_wp hfn hc ?_
  have hT : TR F none0 (us0 ++ List.replicate (fn.ntmps - us0.length) U.undef) (vs.toArray ++ Array.replicate (fn.ntmps - vs.toArray.size) Go.undef) := by
    have hl := hA.1
    refine ⟨by simp [hl], fun t u' hu => ?_⟩
    by_cases ht : t < us0.length
    · rw [List.getElem?_append_left ht] at hu
      have ht' : t < vs.length := by omega
      exact ⟨vs[t], by simp [Array.getElem?_append, ht'], hA.2 t u' _ hu (List.getElem?_eq_getElem ht')⟩
    · rw [List.getElem?_append_right (by omega)] at hu
      rw [List.getElem?_replicate] at hu
      split at hu
      · rename_i hlt
        obtain rfl := Option.some.inj hu
        have : ¬ t < vs.length := by omega
        have hlt' : t - vs.length < fn.ntmps - vs.length := by omega
        exact ⟨Go.undef, by simp [Array.getElem?_append, this, Array.getElem?_replicate, hlt'], .undef⟩
      · simp at hu
  refine Code.wp_mono (fun e a' w' hp => ?_) (h.wp w F none0 w.heap.size _ hS hT rfl (fun _ _ => rfl) (Nat.le_refl _))
  obtain ⟨rfl, hd, F', L', hE, hS', hT'⟩ := hp
  obtain ⟨vs', hargs, hrun⟩ := results_ok hS' hT' hres
  rcases hx with rfl | rfl
  · exact ⟨hd, _, hrun, vs', F', L', rfl, hE, hS', hargs⟩
  · exact ⟨hd, _, hrun, vs', F', L', rfl, hE, hS', hargs⟩
theorem holds_of_run {f : Nat} {fn : Func} {c : Code} (hfn : P.funcs[f]? = some fn) (hc : fn.body = some c) {ds : List D} {s' : St} {x : X} (h : Run P c ⟨ds.map .dat ++ List.replicate (fn.ntmps - (ds.map U.dat).length) .undef, [], 0⟩ x s') (hx : x = .normal ∨ x = .ret)
    {us : List U} (hres : fn.results.toList.mapM (resU P (getO s'.st) s'.tm) = some us) {rs : List (D × List Nat)} (hrs : us.mapM (toD (getO s'.st) 40) = some rs) : Holds P f ds (rs.map (·.1)) := by
  refine ⟨⟨fn, c, hfn, hc⟩, fun w F vs hF hA => ?_⟩
  refine Calls.mono (calls_of_run hfn hc h hx hres hF hA) fun e w' he => ?_
  obtain ⟨vs', F', L', rfl, hE, hS', hargs⟩ := he
  have hs := hS'.snapped (rs.flatMap (·.2))
  refine ⟨_, _, L', rfl, hE.trans hs.2, hs.1.mem, ?_⟩
  have hel : ∀ (i : Nat) u v, ((rs.map (·.1)).map U.dat)[i]? = some u → vs'[i]? = some v → RepU (FS F' w' L' (getO s'.st) (rs.flatMap (·.2))) none0 u v := by
    intro i u v hu hv
    rw [List.map_map, List.getElem?_map] at hu
    obtain ⟨d, hd, rfl⟩ := Option.map_eq_some_iff.1 hu
    obtain ⟨y, hy, hyd⟩ := mapM_back hrs hd
    exact .dat _ _ ((toD_rep hS' 40 y v d hyd (hargs.2 i y v hy hv)).mono (FS_mono fun z hz => List.mem_flatMap.2 ⟨d, List.mem_of_getElem? hd, hz⟩))
  have hl : vs'.length = rs.length := by rw [hargs.1, (mapM_some hrs).1]
  by_cases h1 : rs.length = 1
  · obtain ⟨d, rfl⟩ := List.length_eq_one_iff.1 h1
    obtain ⟨v, rfl⟩ := List.length_eq_one_iff.1 (hl.trans h1)
    exact hel 0 _ v rfl rfl
  · have hne : resD (rs.map (·.1)) = .tup ((rs.map (·.1)).map U.dat) := by
      unfold resD
      split
      · rename_i d e; have := congrArg List.length e; simp at this; exact absurd this h1
      · rfl
    have h2 : ¬ vs'.toArray.size = 1 := by simp [hl, h1]
    rw [hne, dif_neg h2]
    exact .tup _ _ (by simp [hl]) hel
end
end Go.Proofs.Ytjofhegodknmaaa.V
