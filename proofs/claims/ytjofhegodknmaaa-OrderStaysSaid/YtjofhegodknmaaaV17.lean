/- V, 17: the evaluator is sound. -/
import Derived.Test.YtjofhegodknmaaaV16
set_option linter.unusedSimpArgs false
set_option linter.unusedVariables false
namespace Go.Proofs.Ytjofhegodknmaaa.V
open Go
variable [Sig]
def toE : X → Exit
  | .normal => .normal
  | .exit id => .exit id
  | .ret => .ret
def Post (w : World) (F : Mem) (L : Lay) (b0 : Nat) (x : X) (s : St) : Exit → Act → World → Prop := fun e a w' =>
  e = toE x ∧ a.defers = [] ∧ ∃ F' L', Evo w F L w' F' L' ∧ SR w' F' L' b0 (getO s.st) ∧ TR F' L' s.tm a.tmps
theorem Post.from {w w1 : World} {F F1 : Mem} {L L1 : Lay} {b0 : Nat} {x : X} {s : St} (hE : Evo w F L w1 F1 L1) {e : Exit} {a : Act} {w' : World} (h : Post w1 F1 L1 b0 x s e a w') : Post w F L b0 x s e a w' := by
  obtain ⟨h1, h2, F', L', h3, h4, h5⟩ := h
  exact ⟨h1, h2, F', L', hE.trans h3, h4, h5⟩
section
variable {P : Program} {an : An}
def ExOk (P : Program) (an : An) (k : Nat) : Prop :=
  ∀ c s x s' w F L b0 a, Regs c → exec P an k c s = some (x, s') → SR w F L b0 (getO s.st) → TR F L s.tm a.tmps → a.defers = [] → (∀ x, s.nx ≤ x → getO s.st x = none) → b0 ≤ w.heap.size →
    c.wp P (Post w F L b0 x s') a w
theorem exec_fresh {k : Nat} {c : Code} {s : St} {x : X} {s' : St} (h : exec P an k c s = some (x, s')) (hf : ∀ x, s.nx ≤ x → getO s.st x = none) : ∀ x, s'.nx ≤ x → getO s'.st x = none := by
  have _s : Sig := inferInstance
  intro y hy
  have hg := (gr_all P an k).2.2.2.2 _ _ _ _ h
  cases e : getO s'.st y with
  | none => rfl
  | some ob =>
    rcases hg.news y (by rw [e]; simp) with h1 | h1
    · exact absurd (hf y (Nat.le_trans hg.le hy)) h1
    · omega
def LpOk (P : Program) (an : An) (k : Nat) : Prop :=
  ∀ b s x s' w F L b0 a (Q : Exit → Act → World → Prop), Regs b → exec P an k (.loop b) s = some (x, s') → SR w F L b0 (getO s.st) → TR F L s.tm a.tmps → a.defers = [] → (∀ x, s.nx ≤ x → getO s.st x = none) → b0 ≤ w.heap.size →
    (∀ e a' w', Post w F L b0 x s' e a' w' → Q e a' w') → Code.rounds P b Q k a w
theorem exec_ok (hN : Good P an) (hm : P.follows .mixedOrders = true) (k : Nat) : (∀ j, j < k → PcOk P an j) → ExOk P an k ∧ LpOk P an k := by
  induction k with
  | zero =>
    intro _
    refine ⟨?_, ?_⟩
    · intro c s x s' w F L b0 a hg h; simp [exec] at h
    · intro b s x s' w F L b0 a Q hg h; simp [exec] at h
  | succ k ih =>
    intro hk
    obtain ⟨ih, ihl⟩ := ih fun j hj => hk j (by omega)
    have hl : LpOk P an (k + 1) := by
      intro b s x s' w F L b0 a Q hg h hS hT hd hf hb hQ
      simp only [exec, forceN_eq] at h
      rw [rounds_succ]
      cases he : exec P an k b s with
      | none => rw [he] at h; simp at h
      | some q =>
        obtain ⟨x1, s1⟩ := q
        have hf1 := exec_fresh he hf
        refine Code.wp_mono (fun e a' w' hp => ?_) (ih b s x1 s1 w F L b0 a hg he hS hT hd hf hb)
        rw [he] at h
        cases x1 with
        | normal =>
          simp only at h
          have hp' := hp
          obtain ⟨rfl, hd', F', L', hE, hS', hT'⟩ := hp'
          exact ihl b s1 x s' w' F' L' b0 a' Q hg h hS' hT' hd' hf1 (Nat.le_trans hb hE.size) fun e a2 w2 h2 => hQ e a2 w2 (h2.from hE)
        | exit id =>
          simp only [Option.some.injEq, Prod.mk.injEq] at h
          obtain ⟨rfl, rfl⟩ := h
          have := hQ e a' w' hp
          obtain ⟨rfl, _⟩ := hp
          exact this
        | ret =>
          simp only [Option.some.injEq, Prod.mk.injEq] at h
          obtain ⟨rfl, rfl⟩ := h
          have := hQ e a' w' hp
          obtain ⟨rfl, _⟩ := hp
          exact this
    refine ⟨?_, hl⟩
    intro c s x s' w F L b0 a hg h hS hT hd hf hb
    cases c
    case skip =>
      simp only [exec, Option.some.injEq, Prod.mk.injEq] at h
      obtain ⟨rfl, rfl⟩ := h
      exact wp_skip ⟨rfl, hd, F, L, .refl _ _ _, hS, hT⟩
    case exit id =>
      simp only [exec, Option.some.injEq, Prod.mk.injEq] at h
      obtain ⟨rfl, rfl⟩ := h
      exact wp_exit ⟨rfl, hd, F, L, .refl _ _ _, hS, hT⟩
    case ret =>
      simp only [exec, Option.some.injEq, Prod.mk.injEq] at h
      obtain ⟨rfl, rfl⟩ := h
      exact wp_ret ⟨rfl, hd, F, L, .refl _ _ _, hS, hT⟩
    case loop b => exact wp_loop_rounds (k + 1) (hl b s x s' w F L b0 a _ hg h hS hT hd hf hb fun _ _ _ h => h)
    case cond c t e =>
      simp only [exec, forceN_eq] at h
      split at h
      · rename_i v hv
        have hr := eval_rep hT hv
        have hc : a.eval c = .bool v := by
          generalize a.eval c = y at hr
          cases hr with
          | dat _ _ hr => cases hr; rfl
        cases v with
        | true => simp only [if_true] at h; exact wp_cond hc (by simp only [if_true]; exact ih t s x s' w F L b0 a hg.1 h hS hT hd hf hb)
        | false => simp only [Bool.false_eq_true, if_false] at h; exact wp_cond hc (by simp only [Bool.false_eq_true, if_false]; exact ih e s x s' w F L b0 a hg.2 h hS hT hd hf hb)
      · simp at h
    case seq p q =>
      simp only [exec, forceN_eq] at h
      cases he : exec P an k p s with
      | none => rw [he] at h; simp at h
      | some r =>
        obtain ⟨x1, s1⟩ := r
        have hf1 := exec_fresh he hf
        refine wp_seq (Code.wp_mono (fun e a' w' hp => ?_) (ih p s x1 s1 w F L b0 a hg.1 he hS hT hd hf hb))
        rw [he] at h
        cases x1 with
        | normal =>
          simp only at h
          obtain ⟨rfl, hd', F', L', hE, hS', hT'⟩ := hp
          exact Code.wp_mono (fun e a2 w2 h2 => h2.from hE) (ih q s1 x s' w' F' L' b0 a' hg.2 h hS' hT' hd' hf1 (Nat.le_trans hb hE.size))
        | exit id =>
          simp only [Option.some.injEq, Prod.mk.injEq] at h
          obtain ⟨rfl, rfl⟩ := h
          have h2 := hp
          obtain ⟨rfl, _⟩ := h2
          exact hp
        | ret =>
          simp only [Option.some.injEq, Prod.mk.injEq] at h
          obtain ⟨rfl, rfl⟩ := h
          have h2 := hp
          obtain ⟨rfl, _⟩ := h2
          exact hp
    case block id b =>
      simp only [exec, forceN_eq] at h
      cases he : exec P an k b s with
      | none => rw [he] at h; simp at h
      | some r =>
        obtain ⟨x1, s1⟩ := r
        refine wp_block (Code.wp_mono (fun e a' w' hp => ?_) (ih b s x1 s1 w F L b0 a hg he hS hT hd hf hb))
        rw [he] at h
        cases x1 with
        | normal =>
          simp only [Option.some.injEq, Prod.mk.injEq] at h
          obtain ⟨rfl, rfl⟩ := h
          have h2 := hp
          obtain ⟨rfl, _⟩ := h2
          exact hp
        | ret =>
          simp only [Option.some.injEq, Prod.mk.injEq] at h
          obtain ⟨rfl, rfl⟩ := h
          have h2 := hp
          obtain ⟨rfl, _⟩ := h2
          exact hp
        | exit j =>
          simp only at h
          obtain ⟨rfl, hd', r⟩ := hp
          by_cases e : j = id
          · rw [if_pos e] at h
            simp only [Option.some.injEq, Prod.mk.injEq] at h
            obtain ⟨rfl, rfl⟩ := h
            simp only [toE, Exit.inBlock, if_pos e]
            exact ⟨rfl, hd', r⟩
          · rw [if_neg e] at h
            simp only [Option.some.injEq, Prod.mk.injEq] at h
            obtain ⟨rfl, rfl⟩ := h
            simp only [toE, Exit.inBlock, if_neg e]
            exact ⟨rfl, hd', r⟩
    case region id ops draw =>
      simp only [exec, forceN_eq] at h
      split at h
      · rename_i s1 rs h1
        split at h
        · rename_i hc
          simp only [Option.some.injEq, Prod.mk.injEq] at h
          obtain ⟨rfl, rfl⟩ := h
          have hk' : ∀ j, j < k → PcOk P an j := fun j hj => hk j (by omega)
          cases draw with
          | true =>
            simp only [Bool.not_true, Bool.false_or] at hc
            exact region_any hN hm hg hk' h1 hc hS hT hf hb fun a' w' F' L' hE hS' hT' hd' => ⟨rfl, by rw [hd', hd], F', L', hE, hS', hT'⟩
          | false =>
            refine wp_region_list (opers_seq hN k ops.toList 0 _ s1 [] rs w F L a hk' h1 hS hT ?_ ?_ ?_ hb fun a' w' F' L' hE hS' hT' hd' => ⟨rfl, by rw [hd', hd], F', L', hE, hS', hT'⟩)
            · intro y hy; simp only at hy; exact hf y (by omega)
            · intro y h1 h2; exact hf y (by omega)
            · simp
        · simp at h
      · simp at h
    all_goals simp [exec] at h
theorem run_listMapM {α β : Type} {f : α → Sem β} {w : World} : ∀ {l : List α} {vs : List β}, vs.length = l.length → (∀ (i : Nat) x v, l[i]? = some x → vs[i]? = some v → (f x).run P w = .ok v w) → (l.mapM f).run P w = .ok vs w := by
  have _s : Sig := inferInstance
  intro l
  induction l with
  | nil => intro vs h _; have : vs = [] := List.length_eq_zero_iff.1 h
           subst this; simp
  | cons a l ih =>
    intro vs h hf
    cases vs with
    | nil => simp at h
    | cons v vs =>
      rw [List.mapM_cons]
      have h1 := hf 0 a v rfl rfl
      have h2 := ih (vs := vs) (by simpa using h) fun i x u hx hu => hf (i + 1) x u (by simpa using hx) (by simpa using hu)
      simp [h1, h2]
def resOf (tmps : Array Value) : ResultVar → Sem Value
  | .tmp t => pure (tmps.getD t Go.undef)
  | .cell a t => do loadVar t (← asAddr (tmps.getD a Go.undef))
theorem results_eq (fn : Func) (tmps : Array Value) : results fn tmps = (do
    let vs ← fn.results.mapM (resOf tmps)
    pure (if h : vs.size = 1 then vs[0] else .tuple vs)) := have _s : Sig := inferInstance; rfl
def resU (P : Program) (g : Nat → Option Obj) (tm : List U) : ResultVar → Option U
  | .tmp t => tm[t]?
  | .cell a t => (tm[a]?).bind fun u => (opLoad P g t u).map (·.u)
theorem results_ok {fn : Func} {tm : List U} {g : Nat → Option Obj} {w : World} {F : Mem} {L : Lay} {b0 : Nat} {tmps : Array Value} (hS : SR w F L b0 g) (hT : TR F L tm tmps) {us : List U}
    (h : fn.results.toList.mapM (resU P g tm) = some us) :
    ∃ vs, Args F L us vs ∧ (results fn tmps).run P w = .ok (if h : vs.toArray.size = 1 then vs.toArray[0] else .tuple vs.toArray) w := by
  obtain ⟨hl, hget⟩ := mapM_some h
  have hex : ∀ (i : Nat), ∃ v, ∀ x u, fn.results.toList[i]? = some x → us[i]? = some u → RepU F L u v ∧ (resOf tmps x).run P w = .ok v w := by
    intro i
    cases hx : fn.results.toList[i]? with
    | none => exact ⟨Go.undef, fun x u h => by simp at h⟩
    | some x =>
      obtain ⟨u, hu, hxu⟩ := hget i x hx
      cases x with
      | tmp t =>
        simp only [resU] at hxu
        obtain ⟨v, hv, hr⟩ := hT.2 t u hxu
        refine ⟨v, fun x u' h1 h2 => ?_⟩
        obtain rfl := Option.some.inj h1
        rw [hu] at h2
        obtain rfl := Option.some.inj h2
        exact ⟨hr, by simp [resOf, hv]⟩
      | cell a t =>
        simp only [resU] at hxu
        obtain ⟨p, hp, hpu⟩ := Option.bind_eq_some_iff.1 hxu
        obtain ⟨r, hr, rfl⟩ := Option.map_eq_some_iff.1 hpu
        obtain ⟨pv, hpv, hprep⟩ := hT.2 a p hp
        obtain ⟨_, ad, v, rfl, hrun, hrep⟩ := loadVar_ok hr hS hprep
        refine ⟨v, fun x u' h1 h2 => ?_⟩
        obtain rfl := Option.some.inj h1
        rw [hu] at h2
        obtain rfl := Option.some.inj h2
        exact ⟨hrep, by simp [resOf, hpv, asAddr, hrun]⟩
  obtain ⟨val, hval⟩ := Classical.axiomOfChoice hex
  refine ⟨(List.range us.length).map val, ⟨by simp, fun i u v hu hv => ?_⟩, ?_⟩
  · have hi : i < us.length := (List.getElem?_eq_some_iff.1 hu).1
    simp [hi] at hv
    subst hv
    have hi' : i < fn.results.toList.length := by omega
    exact (hval i _ u (List.getElem?_eq_getElem hi') hu).1
  · have hrun := run_listMapM (P := P) (w := w) (f := resOf tmps) (l := fn.results.toList) (vs := (List.range us.length).map val) (by simp [hl]) (fun i x v hx hv => by
        have hi : i < us.length := by rw [hl]; exact (List.getElem?_eq_some_iff.1 hx).1
        simp [hi] at hv
        subst hv
        exact (hval i x us[i] hx (List.getElem?_eq_getElem hi)).2)
    rw [results_eq, Array.mapM_eq_mapM_toList]
    simp only [Sem.run_bind, Sem.run_map]
    rw [hrun]
    rfl
theorem pcall_ok (hN : Good P an) (hR : RegsP P) (hm : P.follows .mixedOrders = true) : ∀ k, PcOk P an k := by
  intro k
  induction k using Nat.strongRecOn with
  | _ k ihk =>
    intro f us st nx u st' nx' w F L b0 vs h hS hA hf hb
    cases k with
    | zero => simp [pcall] at h
    | succ k =>
      simp only [pcall, forceL_eq] at h
      split at h
      · rename_i hq
        split at h
        · simp only [Option.some.injEq, Prod.mk.injEq] at h
          obtain ⟨rfl, rfl, rfl⟩ := h
          exact (hN.call _ _ _ _ _ _ _ hq).calls w F L b0 vs hS hA hf hb
        · simp at h
      split at h
      · simp at h
      · rename_i fn hfn
        split at h
        · simp at h
        · rename_i c hc
          split at h
          · rename_i x s hx
            split at h
            · rename_i hxn
              refine calls_of_wp hfn hc ?_
              have hT : TR F L (us ++ List.replicate (fn.ntmps - us.length) U.undef) (vs.toArray ++ Array.replicate (fn.ntmps - vs.toArray.size) Go.undef) := by
                have hl := hA.1
                refine ⟨by simp [hl], fun t u' hu => ?_⟩
                by_cases ht : t < us.length
                · rw [List.getElem?_append_left ht] at hu
                  have ht' : t < vs.length := by omega
                  exact ⟨vs[t], by simp [Array.getElem?_append, ht'], hA.2 t u' _ hu (List.getElem?_eq_getElem ht')⟩
                · rw [List.getElem?_append_right (by omega)] at hu
                  rw [List.getElem?_replicate] at hu
                  split at hu
                  · rename_i hlt
                    obtain rfl := Option.some.inj hu
                    have : ¬ t < vs.length := by omega
                    have hlt' : t - vs.length < fn.ntmps - vs.length := by omega
                    exact ⟨Go.undef, by simp [Array.getElem?_append, this, Array.getElem?_replicate, hlt'], .undef⟩
                  · simp at hu
              refine Code.wp_mono (fun e a' w' hp => ?_) ((exec_ok (an := an) hN hm k fun j hj => ihk j (by omega)).1 c _ x s w F L b0 _ (hR f fn c hfn hc) hx hS hT rfl hf hb)
              obtain ⟨rfl, hd, F', L', hE, hS', hT'⟩ := hp
              have fin : ∀ us', fn.results.toList.mapM (resU P (getO s.st) s.tm) = some us' → (∀ vs', Args F' L' us' vs' → RepU F' L' u (if h : vs'.toArray.size = 1 then vs'.toArray[0] else .tuple vs'.toArray)) → st' = s.st →
                    ∃ v, (results fn a'.tmps).run P w' = .ok v w' ∧ CallPost w F L b0 (getO st') u (.returned v) w' := by
                intro us' hus hrep hst
                obtain ⟨vs', hargs, hrun⟩ := results_ok hS' hT' hus
                exact ⟨_, hrun, _, F', L', rfl, hE, by rw [hst]; exact hS', hrep vs' hargs⟩
              have fin2 : ∃ v, (results fn a'.tmps).run P w' = .ok v w' ∧ CallPost w F L b0 (getO st') u (.returned v) w' := by
                split at h
                · rename_i u' hus
                  simp only [Option.some.injEq, Prod.mk.injEq] at h
                  obtain ⟨rfl, rfl, rfl⟩ := h
                  refine fin _ hus (fun vs' hargs => ?_) rfl
                  have hl := hargs.1
                  simp at hl
                  obtain ⟨v, rfl⟩ := List.length_eq_one_iff.1 hl
                  simp only [List.size_toArray, List.length_cons, List.length_nil, Nat.zero_add, dite_true]
                  exact hargs.2 0 u' v rfl rfl
                · rename_i l hne hus
                  simp only [Option.some.injEq, Prod.mk.injEq] at h
                  obtain ⟨rfl, rfl, rfl⟩ := h
                  refine fin _ hus (fun vs' hargs => ?_) rfl
                  have hl := hargs.1
                  have h1 : ¬ vs'.toArray.size = 1 := by
                    simp only [List.size_toArray]
                    intro e
                    rw [hl] at e
                    obtain ⟨u', rfl⟩ := List.length_eq_one_iff.1 e
                    exact hne u' rfl
                  rw [dif_neg h1]
                  exact .tup _ _ hl hargs.2
                · simp at h
              rcases hxn with rfl | rfl
              · exact ⟨hd, fin2⟩
              · exact ⟨hd, fin2⟩
            · simp at h
          · simp at h
end
end Go.Proofs.Ytjofhegodknmaaa.V
