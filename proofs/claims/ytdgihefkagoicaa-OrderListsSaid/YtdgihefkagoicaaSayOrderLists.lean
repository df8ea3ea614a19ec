/- OrderLists: the law's run, put together. -/
import Derived.Test.YtdgihefkagoicaaSayOrderBase
set_option linter.unusedVariables false
set_option linter.unusedSimpArgs false
namespace Go.Proofs.Ytdgihefkagoicaa.Say
open Go Go.RowKit
open V (D)
instance : V.Sig := V.sig0

/-! Lists, and texts, held against each other. -/
def xV (d : D) : D := .agg [.int .i64 15, .int .i64 0, mt, d, .nil]
def tV (d : D) : D := .agg [.int .i64 11, .int .i64 0, d, .nil, .nil]
def sK (l m : List Int) : Nat → D
  | 1 => lstV l
  | 2 => lstV m
  | 3 => .int .i64 (lexC l m)
  | _ => .nil
theorem plainK (l m : List Int) : V.Plain (sK l m) := by
  constructor
  · intro j
    unfold sK
    split <;> first | rfl | exact oneLst _
  · intro j
    unfold sK
    split <;> first | rfl | exact noLst _
def tK : V.Tbl := [(56, [([.sym 1, .sym 2, .fn 13 []], [.sym 3])])]
def aK : V.An := { an6 with spec := V.inTbl tK }
set_option maxRecDepth 1000000 in
theorem runK : V.tells Try.prog aK 400 13 [xV (.sym 1), xV (.sym 2)] [.sym 3] = true := by kernel_rfl
theorem cmpL (l m : List Int) (hl : l.length < 100) (hm : m.length < 100) : V.Holds Try.prog 13 [xV (lstV l), xV (lstV m)] [.int .i64 (lexC l m)] := by
  have h1 : @V.Holds (V.sigOf (sK l m)) Try.prog 56 [.sym 1, .sym 2, .fn 13 []] [.sym 3] := V.Holds.outs (plainK l m) (compared l m hl hm)
  have hg : @V.Good (V.sigOf (sK l m)) Try.prog aK := by
    letI : V.Sig := V.sigOf (sK l m)
    exact ⟨named, V.spec_of_tbl (V.TblOk.cons (V.RowOk.cons h1 V.RowOk.nil) V.TblOk.nil), fun _ _ _ _ h => nomatch h⟩
  exact V.Holds.ins (plainK l m) (@V.holds_of_tells (V.sigOf (sK l m)) _ _ hg regs follows _ _ _ _ runK)
def cB (s t : ByteArray) : Int := Lib.compareBytes s.data.toList t.data.toList
def sT (s t : ByteArray) : Nat → D
  | 1 => .str s
  | 2 => .str t
  | 3 => .int .i64 (cB s t)
  | _ => .nil
theorem plainT (s t : ByteArray) : V.Plain (sT s t) := by
  constructor
  · intro j
    unfold sT
    split <;> rfl
  · intro j
    unfold sT
    split <;> rfl
def gT : List V.Gact := [.ext 76 (.sym 1) (.sym 2) (.sym 3)]
def aT : V.An := { an6 with orc := V.orcOr (V.orcOf []) (V.orcG gT) }
set_option maxRecDepth 1000000 in
theorem runT : V.tells Try.prog aT 400 13 [tV (.sym 1), tV (.sym 2)] [.sym 3] = true := by kernel_rfl
theorem gTok (s t : ByteArray) : ∀ f ∈ gT, @V.Gact.ok (V.sigOf (sT s t)) Try.prog f := by
  letI : V.Sig := V.sigOf (sT s t)
  intro f hf
  simp only [gT, List.mem_cons, List.not_mem_nil, or_false] at hf
  subst hf
  exact ⟨Try.f76, s, t, Try.func76, by kernel_rfl, by kernel_rfl, by kernel_rfl, by kernel_rfl, rfl, rfl, rfl⟩
theorem cmpT (s t : ByteArray) : V.Holds Try.prog 13 [tV (.str s), tV (.str t)] [.int .i64 (cB s t)] := by
  have hg : @V.Good (V.sigOf (sT s t)) Try.prog aT := @V.Good.mk (V.sigOf (sT s t)) _ _ named (@V.spec_of_tbl (V.sigOf (sT s t)) _ _ (V.TblOk.any tno to6)) (@V.orc_both (V.sigOf (sT s t)) _ _ _ (fun _ h => by simp at h) (gTok s t) _ rfl)
  exact V.Holds.ins (plainT s t) (@V.holds_of_tells (V.sigOf (sT s t)) _ _ hg regs follows _ _ _ _ runT)
theorem lexC_neg : ∀ l m : List Int, lexC m l = - lexC l m
  | [], [] => rfl
  | [], _ :: _ => rfl
  | _ :: _, [] => rfl
  | x :: l, y :: m => by
    simp only [lexC]
    have ih := lexC_neg l m
    by_cases h1 : x < y
    · have h2 : ¬ y < x := by omega
      have h3 : y > x := h1
      simp [h1, h2, h3]
    · by_cases h2 : y < x
      · simp [h1, h2]
      · have h3 : ¬ y > x := h1
        have h4 : ¬ x > y := h2
        simp [h1, h2, h3, h4, ih]
theorem bytes3 : ∀ x y : List UInt8, Lib.compareBytes x y = if Op.bytesLess x y then -1 else if x == y then 0 else 1
  | [], [] => rfl
  | [], _ :: _ => rfl
  | _ :: _, [] => rfl
  | a :: x, b :: y => by
    have ih := bytes3 x y
    simp only [Lib.compareBytes, Op.bytesLess]
    by_cases h1 : a < b
    · simp [h1]
    · by_cases h2 : b < a
      · have h3 : ¬ a = b := fun h => by subst h; exact h1 h2
        simp [h1, h2, h3]
      · have h3 : a = b := UInt8.le_antisymm (UInt8.not_lt.1 h2) (UInt8.not_lt.1 h1)
        subst h3
        simp [h1, ih]

/-! The law's code, in parts. -/
noncomputable def c5 : Code := match Try.f5.body with
  | some c => c
  | none => .skip
noncomputable def pz0 : Code := cf c5
noncomputable def pz1 : Code := cf (cs c5)
noncomputable def pz2 : Code := cf (cs (cs c5))
noncomputable def pz3 : Code := cf (cs (cs (cs c5)))
noncomputable def pz4 : Code := cf (cs (cs (cs (cs c5))))
noncomputable def pz5 : Code := cf (cs (cs (cs (cs (cs c5)))))
noncomputable def pz6 : Code := cf (cs (cs (cs (cs (cs (cs c5))))))
noncomputable def pz7 : Code := cf (cs (cs (cs (cs (cs (cs (cs c5)))))))
noncomputable def pz8 : Code := cf (cf (cs (cs (cs (cs (cs (cs (cs (cs c5)))))))))
noncomputable def b8 : Code := cb (cb (cs (cf (cs (cs (cs (cs (cs (cs (cs (cs c5)))))))))))
noncomputable def pz9 : Code := cs (cs (cs (cs (cs (cs (cs (cs (cs c5))))))))
theorem body5 : Try.f5.body = some c5 := by kernel_rfl
theorem shape5 : c5 = .seq pz0 (.seq pz1 (.seq pz2 (.seq pz3 (.seq pz4 (.seq pz5 (.seq pz6 (.seq pz7 (.seq (.seq pz8 (.block 4 (.loop b8))) pz9)))))))) := by kernel_rfl
theorem regs5 : V.Regs pz0 ∧ V.Regs pz1 ∧ V.Regs pz2 ∧ V.Regs pz3 ∧ V.Regs pz4 ∧ V.Regs pz5 ∧ V.Regs pz6 ∧ V.Regs pz7 ∧ (V.Regs pz8 ∧ V.Regs b8) ∧ V.Regs pz9 := by
  have h := regs 5 Try.f5 c5 Try.func5 body5
  rw [shape5] at h
  exact h
def vO (d : D) : V.Obj := ⟨41, 5, true, 0, false, [.int .i64 15, .int .i64 0, mt, d, .nil].map .dat⟩
def PS (a b s t x y : D) (w i : V.U) : V.St := ⟨[.dat a, .dat b, .dat s, .dat t, .junk, .junk, .junk, .junk, .junk, .ptr 168 0 0, .ptr 176 0 0, .junk, .junk, w, i] ++ List.replicate 133 .junk, [(168, vO x), (176, vO y)], 216⟩
def FS (x y : D) : V.St := ⟨[.junk, .junk, .junk, .junk, .junk, .junk, .junk, .junk, .dat (.bool true)] ++ List.replicate 139 .junk, [(168, vO x), (176, vO y)], 216⟩
def F0 : V.St := ⟨[.junk, .junk, .junk, .junk, .junk, .junk, .junk, .junk, .dat (.bool true)] ++ List.replicate 139 .junk, [], 216⟩
theorem inV (σ : Nat → D) (d : D) : V.inO σ (vO d) = vO (V.inD σ d) := by
  simp only [V.inO, vO, V.inUs_eq, List.map_cons, List.map_nil, V.inU, V.inD]
  rfl
theorem inPS (σ : Nat → D) (a b s t x y : D) (w i : V.U) : V.inS σ (PS a b s t x y w i) = PS (V.inD σ a) (V.inD σ b) (V.inD σ s) (V.inD σ t) (V.inD σ x) (V.inD σ y) (V.inU σ w) (V.inU σ i) := by
  simp only [PS, V.inS, V.inUs_eq, List.map_append, List.map_cons, List.map_nil, V.inU, List.map_replicate, V.inSt, inV]
theorem inFS (σ : Nat → D) (x y : D) : V.inS σ (FS x y) = FS (V.inD σ x) (V.inD σ y) := by
  simp only [FS, V.inS, V.inUs_eq, List.map_append, List.map_cons, List.map_nil, V.inU, V.inD, List.map_replicate, V.inSt, inV]
theorem inF0 (σ : Nat → D) : V.inS σ F0 = F0 := by
  simp only [F0, V.inS, V.inUs_eq, List.map_append, List.map_cons, List.map_nil, V.inU, V.inD, List.map_replicate, V.inSt]
def kP : List Bool := [true, true, true, true, false, false, false, false, false, true, true]
def kW : List Bool := [true, true, true, true, false, false, false, false, false, true, true, false, false, true]
def kL : List Bool := [true, true, true, true, false, false, false, false, false, true, true, false, false, true, true]
def kF : List Bool := [false, false, false, false, false, false, false, false, true]
/-- the arguments as data -/
structure Args (a b : List Int) (A B : D) : Prop where
  ha : (A = .nil ∧ a = []) ∨ A = .lst (a.map (.int .i8))
  hb : (B = .nil ∧ b = []) ∨ B = .lst (b.map (.int .i8))
def so (a b : List Int) (A B : D) (s t : ByteArray) (w : Int) (i : Nat) : Nat → D := fun n =>
  if n < 30 then
    match n with
    | 1 => A
    | 2 => B
    | 3 => .str s
    | 4 => .str t
    | 5 => lstV a
    | 6 => lstV b
    | 7 => .int .i64 w
    | 8 => .int .i64 i
    | 9 => .int .i64 a.length
    | 10 => .int .i64 b.length
    | 12 => .int .i8 (a.getD i 0)
    | 13 => .int .i8 (b.getD i 0)
    | 14 => .int .i64 (i + 1)
    | 15 => .int .i64 (lexC a b)
    | 16 => .int .i64 (lexC b a)
    | 17 => .int .i64 (cB s t)
    | 18 => .int .i64 s.size
    | 19 => .int .i64 t.size
    | 20 => .int .i64 (IntKind.i64.wrap (-w))
    | _ => .nil
  else if n < 50 then .int .i8 (a.getD (n - 30) 0)
  else if n < 70 then .int .i64 (a.getD (n - 50) 0)
  else if n < 90 then .int .i8 (b.getD (n - 70) 0)
  else .int .i64 (b.getD (n - 90) 0)
theorem noInts (k : IntKind) : ∀ l : List Int, V.noSyms (l.map (.int k)) = true
  | [] => rfl
  | z :: l => by simp only [List.map_cons, V.noSyms, noInts k l, Bool.and_true]; rfl
theorem plainO {a b : List Int} {A B : D} (h : Args a b A B) (s t : ByteArray) (w : Int) (i : Nat) : V.Plain (so a b A B s t w i) := by
  have h1 : ∀ {l : List Int} {d : D}, ((d = .nil ∧ l = []) ∨ d = .lst (l.map (.int .i8))) → d.one = true ∧ V.noSym d = true := by
    intro l d hd
    rcases hd with ⟨rfl, _⟩ | rfl
    · exact ⟨rfl, rfl⟩
    · exact ⟨rfl, by simp only [V.noSym]; exact noInts _ _⟩
  constructor
  · intro j
    unfold so
    split
    · split <;> first | rfl | exact oneLst _ | exact (h1 h.ha).1 | exact (h1 h.hb).1
    · split
      · rfl
      · split
        · rfl
        · split <;> rfl
  · intro j
    unfold so
    split
    · split <;> first | rfl | exact noLst _ | exact (h1 h.ha).2 | exact (h1 h.hb).2
    · split
      · rfl
      · split
        · rfl
        · split <;> rfl

/-! The runs. -/
def aG (f : List V.Fact) (g : List V.Gact) : V.An := { an6 with orc := V.orcOr (V.orcOf f) (V.orcG g) }
def y0 : V.St := ⟨[.dat (.sym 1), .dat (.sym 2), .dat (.sym 3), .dat (.sym 4)] ++ List.replicate 144 .undef, [], 0⟩
noncomputable def y1 : V.St := nd (V.exec Try.prog an6 400 pz0 y0)
noncomputable def y2 : V.St := nd (V.exec Try.prog an6 400 pz1 y1)
def gLen4 : List V.Gact := [.len 45 (.sym 1) (.sym 9), .len 45 (.sym 2) (.sym 10), .len 9 (.sym 3) (.sym 18), .len 9 (.sym 4) (.sym 19)]
def fIn (x y z u : Bool) : List V.Fact := [.cmp .gtr (.sym 9) (.int .i64 10) x, .cmp .gtr (.sym 10) (.int .i64 10) y, .cmp .gtr (.sym 18) (.int .i64 20) z, .cmp .gtr (.sym 19) (.int .i64 20) u]
noncomputable def y3 : V.St := nd (V.exec Try.prog (aG (fIn false false false false) gLen4) 400 pz2 y2)
noncomputable def y4 : V.St := nd (V.exec Try.prog an6 400 pz3 y3)
set_option maxRecDepth 1000000 in
theorem ru0 : V.exec Try.prog an6 400 pz0 y0 = some (.normal, y1) := by kernel_rfl
set_option maxRecDepth 1000000 in
theorem ru1 : V.exec Try.prog an6 400 pz1 y1 = some (.normal, y2) := by kernel_rfl
set_option maxRecDepth 1000000 in
theorem ru2 : V.exec Try.prog (aG (fIn false false false false) gLen4) 400 pz2 y2 = some (.normal, y3) := by kernel_rfl
set_option maxRecDepth 1000000 in
theorem ru3 : V.exec Try.prog an6 400 pz3 y3 = some (.normal, y4) := by kernel_rfl
set_option maxRecDepth 1000000 in
theorem ru4 : V.uptoD Try.prog an6 400 pz4 y4 [168, 176] kP 216 = some (.normal, PS (.sym 1) (.sym 2) (.sym 3) (.sym 4) .nil .nil .junk .junk) := by kernel_rfl

def fE0 : List V.Fact := [.cmp .gtr (.sym 9) (.int .i64 10) true]
set_option maxRecDepth 1000000 in
theorem ruE0 : V.uptoD Try.prog (aG fE0 gLen4) 400 pz2 y2 [] kF 216 = some (.ret, F0) := by kernel_rfl
def fE1 : List V.Fact := [.cmp .gtr (.sym 9) (.int .i64 10) false, .cmp .gtr (.sym 10) (.int .i64 10) true]
set_option maxRecDepth 1000000 in
theorem ruE1 : V.uptoD Try.prog (aG fE1 gLen4) 400 pz2 y2 [] kF 216 = some (.ret, F0) := by kernel_rfl
def fE2 : List V.Fact := [.cmp .gtr (.sym 9) (.int .i64 10) false, .cmp .gtr (.sym 10) (.int .i64 10) false, .cmp .gtr (.sym 18) (.int .i64 20) true]
set_option maxRecDepth 1000000 in
theorem ruE2 : V.uptoD Try.prog (aG fE2 gLen4) 400 pz2 y2 [] kF 216 = some (.ret, F0) := by kernel_rfl
def fE3 : List V.Fact := [.cmp .gtr (.sym 9) (.int .i64 10) false, .cmp .gtr (.sym 10) (.int .i64 10) false, .cmp .gtr (.sym 18) (.int .i64 20) false, .cmp .gtr (.sym 19) (.int .i64 20) true]
set_option maxRecDepth 1000000 in
theorem ruE3 : V.uptoD Try.prog (aG fE3 gLen4) 400 pz2 y2 [] kF 216 = some (.ret, F0) := by kernel_rfl
def rowX (k n : Nat) : D := if n = 0 then .nil else .lst ((List.range n).map fun j => .agg [.int .i64 3, .sym (k + j), mt, .nil, .nil])
def gX (n : Nat) : List V.Gact := .len 45 (.sym 1) (.int .i64 n) :: (List.range n).map fun (j : Nat) => .ix 45 (.sym 1) (.int .i64 j) [.sym (30 + j)]
def fX5 (n : Nat) : List V.Fact := (List.range n).map fun (j : Nat) => .conv 35 2 (.sym (30 + j)) (.sym (50 + j))
def gY (n : Nat) : List V.Gact := .len 45 (.sym 2) (.int .i64 n) :: (List.range n).map fun (j : Nat) => .ix 45 (.sym 2) (.int .i64 j) [.sym (70 + j)]
def fY5 (n : Nat) : List V.Fact := (List.range n).map fun (j : Nat) => .conv 35 2 (.sym (70 + j)) (.sym (90 + j))
set_option maxRecDepth 1000000 in
theorem ruX0 : V.uptoD Try.prog (aG (fX5 0) (gX 0)) 400 pz5 (PS (.sym 1) (.sym 2) (.sym 3) (.sym 4) .nil .nil .junk .junk) [168, 176] kP 216 = some (.normal, PS (.sym 1) (.sym 2) (.sym 3) (.sym 4) (rowX 50 0) .nil .junk .junk) := by kernel_rfl
set_option maxRecDepth 1000000 in
theorem ruY0 : V.uptoD Try.prog (aG (fY5 0) (gY 0)) 400 pz6 (PS (.sym 1) (.sym 2) (.sym 3) (.sym 4) (.sym 5) .nil .junk .junk) [168, 176] kP 216 = some (.normal, PS (.sym 1) (.sym 2) (.sym 3) (.sym 4) (.sym 5) (rowX 90 0) .junk .junk) := by kernel_rfl
set_option maxRecDepth 1000000 in
theorem ruX1 : V.uptoD Try.prog (aG (fX5 1) (gX 1)) 400 pz5 (PS (.sym 1) (.sym 2) (.sym 3) (.sym 4) .nil .nil .junk .junk) [168, 176] kP 216 = some (.normal, PS (.sym 1) (.sym 2) (.sym 3) (.sym 4) (rowX 50 1) .nil .junk .junk) := by kernel_rfl
set_option maxRecDepth 1000000 in
theorem ruY1 : V.uptoD Try.prog (aG (fY5 1) (gY 1)) 400 pz6 (PS (.sym 1) (.sym 2) (.sym 3) (.sym 4) (.sym 5) .nil .junk .junk) [168, 176] kP 216 = some (.normal, PS (.sym 1) (.sym 2) (.sym 3) (.sym 4) (.sym 5) (rowX 90 1) .junk .junk) := by kernel_rfl
set_option maxRecDepth 1000000 in
theorem ruX2 : V.uptoD Try.prog (aG (fX5 2) (gX 2)) 400 pz5 (PS (.sym 1) (.sym 2) (.sym 3) (.sym 4) .nil .nil .junk .junk) [168, 176] kP 216 = some (.normal, PS (.sym 1) (.sym 2) (.sym 3) (.sym 4) (rowX 50 2) .nil .junk .junk) := by kernel_rfl
set_option maxRecDepth 1000000 in
theorem ruY2 : V.uptoD Try.prog (aG (fY5 2) (gY 2)) 400 pz6 (PS (.sym 1) (.sym 2) (.sym 3) (.sym 4) (.sym 5) .nil .junk .junk) [168, 176] kP 216 = some (.normal, PS (.sym 1) (.sym 2) (.sym 3) (.sym 4) (.sym 5) (rowX 90 2) .junk .junk) := by kernel_rfl
set_option maxRecDepth 1000000 in
theorem ruX3 : V.uptoD Try.prog (aG (fX5 3) (gX 3)) 400 pz5 (PS (.sym 1) (.sym 2) (.sym 3) (.sym 4) .nil .nil .junk .junk) [168, 176] kP 216 = some (.normal, PS (.sym 1) (.sym 2) (.sym 3) (.sym 4) (rowX 50 3) .nil .junk .junk) := by kernel_rfl
set_option maxRecDepth 1000000 in
theorem ruY3 : V.uptoD Try.prog (aG (fY5 3) (gY 3)) 400 pz6 (PS (.sym 1) (.sym 2) (.sym 3) (.sym 4) (.sym 5) .nil .junk .junk) [168, 176] kP 216 = some (.normal, PS (.sym 1) (.sym 2) (.sym 3) (.sym 4) (.sym 5) (rowX 90 3) .junk .junk) := by kernel_rfl
set_option maxRecDepth 1000000 in
theorem ruX4 : V.uptoD Try.prog (aG (fX5 4) (gX 4)) 400 pz5 (PS (.sym 1) (.sym 2) (.sym 3) (.sym 4) .nil .nil .junk .junk) [168, 176] kP 216 = some (.normal, PS (.sym 1) (.sym 2) (.sym 3) (.sym 4) (rowX 50 4) .nil .junk .junk) := by kernel_rfl
set_option maxRecDepth 1000000 in
theorem ruY4 : V.uptoD Try.prog (aG (fY5 4) (gY 4)) 400 pz6 (PS (.sym 1) (.sym 2) (.sym 3) (.sym 4) (.sym 5) .nil .junk .junk) [168, 176] kP 216 = some (.normal, PS (.sym 1) (.sym 2) (.sym 3) (.sym 4) (.sym 5) (rowX 90 4) .junk .junk) := by kernel_rfl
set_option maxRecDepth 1000000 in
theorem ruX5 : V.uptoD Try.prog (aG (fX5 5) (gX 5)) 400 pz5 (PS (.sym 1) (.sym 2) (.sym 3) (.sym 4) .nil .nil .junk .junk) [168, 176] kP 216 = some (.normal, PS (.sym 1) (.sym 2) (.sym 3) (.sym 4) (rowX 50 5) .nil .junk .junk) := by kernel_rfl
set_option maxRecDepth 1000000 in
theorem ruY5 : V.uptoD Try.prog (aG (fY5 5) (gY 5)) 400 pz6 (PS (.sym 1) (.sym 2) (.sym 3) (.sym 4) (.sym 5) .nil .junk .junk) [168, 176] kP 216 = some (.normal, PS (.sym 1) (.sym 2) (.sym 3) (.sym 4) (.sym 5) (rowX 90 5) .junk .junk) := by kernel_rfl
set_option maxRecDepth 1000000 in
theorem ruX6 : V.uptoD Try.prog (aG (fX5 6) (gX 6)) 400 pz5 (PS (.sym 1) (.sym 2) (.sym 3) (.sym 4) .nil .nil .junk .junk) [168, 176] kP 216 = some (.normal, PS (.sym 1) (.sym 2) (.sym 3) (.sym 4) (rowX 50 6) .nil .junk .junk) := by kernel_rfl
set_option maxRecDepth 1000000 in
theorem ruY6 : V.uptoD Try.prog (aG (fY5 6) (gY 6)) 400 pz6 (PS (.sym 1) (.sym 2) (.sym 3) (.sym 4) (.sym 5) .nil .junk .junk) [168, 176] kP 216 = some (.normal, PS (.sym 1) (.sym 2) (.sym 3) (.sym 4) (.sym 5) (rowX 90 6) .junk .junk) := by kernel_rfl
set_option maxRecDepth 1000000 in
theorem ruX7 : V.uptoD Try.prog (aG (fX5 7) (gX 7)) 400 pz5 (PS (.sym 1) (.sym 2) (.sym 3) (.sym 4) .nil .nil .junk .junk) [168, 176] kP 216 = some (.normal, PS (.sym 1) (.sym 2) (.sym 3) (.sym 4) (rowX 50 7) .nil .junk .junk) := by kernel_rfl
set_option maxRecDepth 1000000 in
theorem ruY7 : V.uptoD Try.prog (aG (fY5 7) (gY 7)) 400 pz6 (PS (.sym 1) (.sym 2) (.sym 3) (.sym 4) (.sym 5) .nil .junk .junk) [168, 176] kP 216 = some (.normal, PS (.sym 1) (.sym 2) (.sym 3) (.sym 4) (.sym 5) (rowX 90 7) .junk .junk) := by kernel_rfl
set_option maxRecDepth 1000000 in
theorem ruX8 : V.uptoD Try.prog (aG (fX5 8) (gX 8)) 400 pz5 (PS (.sym 1) (.sym 2) (.sym 3) (.sym 4) .nil .nil .junk .junk) [168, 176] kP 216 = some (.normal, PS (.sym 1) (.sym 2) (.sym 3) (.sym 4) (rowX 50 8) .nil .junk .junk) := by kernel_rfl
set_option maxRecDepth 1000000 in
theorem ruY8 : V.uptoD Try.prog (aG (fY5 8) (gY 8)) 400 pz6 (PS (.sym 1) (.sym 2) (.sym 3) (.sym 4) (.sym 5) .nil .junk .junk) [168, 176] kP 216 = some (.normal, PS (.sym 1) (.sym 2) (.sym 3) (.sym 4) (.sym 5) (rowX 90 8) .junk .junk) := by kernel_rfl
set_option maxRecDepth 1000000 in
theorem ruX9 : V.uptoD Try.prog (aG (fX5 9) (gX 9)) 400 pz5 (PS (.sym 1) (.sym 2) (.sym 3) (.sym 4) .nil .nil .junk .junk) [168, 176] kP 216 = some (.normal, PS (.sym 1) (.sym 2) (.sym 3) (.sym 4) (rowX 50 9) .nil .junk .junk) := by kernel_rfl
set_option maxRecDepth 1000000 in
theorem ruY9 : V.uptoD Try.prog (aG (fY5 9) (gY 9)) 400 pz6 (PS (.sym 1) (.sym 2) (.sym 3) (.sym 4) (.sym 5) .nil .junk .junk) [168, 176] kP 216 = some (.normal, PS (.sym 1) (.sym 2) (.sym 3) (.sym 4) (.sym 5) (rowX 90 9) .junk .junk) := by kernel_rfl
set_option maxRecDepth 1000000 in
theorem ruX10 : V.uptoD Try.prog (aG (fX5 10) (gX 10)) 400 pz5 (PS (.sym 1) (.sym 2) (.sym 3) (.sym 4) .nil .nil .junk .junk) [168, 176] kP 216 = some (.normal, PS (.sym 1) (.sym 2) (.sym 3) (.sym 4) (rowX 50 10) .nil .junk .junk) := by kernel_rfl
set_option maxRecDepth 1000000 in
theorem ruY10 : V.uptoD Try.prog (aG (fY5 10) (gY 10)) 400 pz6 (PS (.sym 1) (.sym 2) (.sym 3) (.sym 4) (.sym 5) .nil .junk .junk) [168, 176] kP 216 = some (.normal, PS (.sym 1) (.sym 2) (.sym 3) (.sym 4) (.sym 5) (rowX 90 10) .junk .junk) := by kernel_rfl
theorem ruX (n : Nat) (h : n ≤ 10) : V.uptoD Try.prog (aG (fX5 n) (gX n)) 400 pz5 (PS (.sym 1) (.sym 2) (.sym 3) (.sym 4) .nil .nil .junk .junk) [168, 176] kP 216 = some (.normal, PS (.sym 1) (.sym 2) (.sym 3) (.sym 4) (rowX 50 n) .nil .junk .junk) := by
  have : n = 0 ∨ n = 1 ∨ n = 2 ∨ n = 3 ∨ n = 4 ∨ n = 5 ∨ n = 6 ∨ n = 7 ∨ n = 8 ∨ n = 9 ∨ n = 10 := by omega
  rcases this with rfl | rfl | rfl | rfl | rfl | rfl | rfl | rfl | rfl | rfl | rfl
  · exact ruX0
  · exact ruX1
  · exact ruX2
  · exact ruX3
  · exact ruX4
  · exact ruX5
  · exact ruX6
  · exact ruX7
  · exact ruX8
  · exact ruX9
  · exact ruX10
theorem ruY (n : Nat) (h : n ≤ 10) : V.uptoD Try.prog (aG (fY5 n) (gY n)) 400 pz6 (PS (.sym 1) (.sym 2) (.sym 3) (.sym 4) (.sym 5) .nil .junk .junk) [168, 176] kP 216 = some (.normal, PS (.sym 1) (.sym 2) (.sym 3) (.sym 4) (.sym 5) (rowX 90 n) .junk .junk) := by
  have : n = 0 ∨ n = 1 ∨ n = 2 ∨ n = 3 ∨ n = 4 ∨ n = 5 ∨ n = 6 ∨ n = 7 ∨ n = 8 ∨ n = 9 ∨ n = 10 := by omega
  rcases this with rfl | rfl | rfl | rfl | rfl | rfl | rfl | rfl | rfl | rfl | rfl
  · exact ruY0
  · exact ruY1
  · exact ruY2
  · exact ruY3
  · exact ruY4
  · exact ruY5
  · exact ruY6
  · exact ruY7
  · exact ruY8
  · exact ruY9
  · exact ruY10
def hW (u v : V.U) : V.St := PS (.sym 1) (.sym 2) (.sym 3) (.sym 4) (.sym 5) (.sym 6) u v
set_option maxRecDepth 1000000 in
theorem ru7 : V.uptoD Try.prog an6 400 pz7 (hW .junk .junk) [168, 176] kW 216 = some (.normal, hW (.dat (.int .i64 0)) .junk) := by kernel_rfl
set_option maxRecDepth 1000000 in
theorem ru8 : V.uptoD Try.prog an6 400 pz8 (hW (.dat (.int .i64 0)) .junk) [168, 176] kL 216 = some (.normal, hW (.dat (.int .i64 0)) (.dat (.int .i64 0))) := by kernel_rfl
def gL2 : List V.Gact := [.len 45 (.sym 1) (.sym 9), .len 45 (.sym 2) (.sym 10)]
def gL4 : List V.Gact := .ix 45 (.sym 1) (.sym 8) [.sym 12] :: .ix 45 (.sym 2) (.sym 8) [.sym 13] :: gL2
def fIn2 : List V.Fact := [.cmp .lss (.sym 8) (.sym 9) true, .cmp .lss (.sym 8) (.sym 10) true, .ari .add (.sym 8) (.int .i64 1) (.sym 14)]
def fW (p q : Bool) : List V.Fact := .cmp .eql (.sym 7) (.int .i64 0) true :: .cmp .lss (.sym 12) (.sym 13) p :: .cmp .gtr (.sym 12) (.sym 13) q :: fIn2
set_option maxRecDepth 1000000 in
theorem ruSame : V.uptoD Try.prog (aG (fW false false) gL4) 400 b8 (hW (.dat (.sym 7)) (.dat (.sym 8))) [168, 176] kL 216 = some (.normal, hW (.dat (.sym 7)) (.dat (.sym 14))) := by kernel_rfl
set_option maxRecDepth 1000000 in
theorem ruLess : V.uptoD Try.prog (aG (fW true false) gL4) 400 b8 (hW (.dat (.sym 7)) (.dat (.sym 8))) [168, 176] kL 216 = some (.normal, hW (.dat (.int .i64 (-1))) (.dat (.sym 14))) := by kernel_rfl
set_option maxRecDepth 1000000 in
theorem ruMore : V.uptoD Try.prog (aG (fW false true) gL4) 400 b8 (hW (.dat (.sym 7)) (.dat (.sym 8))) [168, 176] kL 216 = some (.normal, hW (.dat (.int .i64 1)) (.dat (.sym 14))) := by kernel_rfl
def fO1 : List V.Fact := [.cmp .lss (.sym 8) (.sym 9) false]
def fO2 : List V.Fact := [.cmp .lss (.sym 8) (.sym 9) true, .cmp .lss (.sym 8) (.sym 10) false]
def fO3 : List V.Fact := [.cmp .lss (.sym 8) (.sym 9) true, .cmp .lss (.sym 8) (.sym 10) true, .cmp .eql (.sym 7) (.int .i64 0) false]
set_option maxRecDepth 1000000 in
theorem ruO1 : V.uptoD Try.prog (aG fO1 gL2) 400 b8 (hW (.dat (.sym 7)) (.dat (.sym 8))) [168, 176] kL 216 = some (.exit 4, hW (.dat (.sym 7)) (.dat (.sym 8))) := by kernel_rfl
set_option maxRecDepth 1000000 in
theorem ruO2 : V.uptoD Try.prog (aG fO2 gL2) 400 b8 (hW (.dat (.sym 7)) (.dat (.sym 8))) [168, 176] kL 216 = some (.exit 4, hW (.dat (.sym 7)) (.dat (.sym 8))) := by kernel_rfl
set_option maxRecDepth 1000000 in
theorem ruO3 : V.uptoD Try.prog (aG fO3 gL2) 400 b8 (hW (.dat (.sym 7)) (.dat (.sym 8))) [168, 176] kL 216 = some (.exit 4, hW (.dat (.sym 7)) (.dat (.sym 8))) := by kernel_rfl
-- the end: what is wanted of lists (p: it was told already; then whether the lengths are unlike; then which one is shorter), of texts
def tF : V.Tbl := [(13, [([xV (.sym 5), xV (.sym 6)], [.sym 15]), ([xV (.sym 6), xV (.sym 5)], [.sym 16]), ([tV (.sym 3), tV (.sym 4)], [.sym 17])])]
def gF (p q : Bool) : List V.Gact := .cs .lss (.sym 3) (.sym 4) p :: .cs .gtr (.sym 3) (.sym 4) q :: .neg (.sym 7) (.sym 20) :: gL2
def fN (k : Int) : List V.Fact := [.cmp .eql (.sym 7) (.int .i64 0) false, .cmp .eql (.sym 15) (.sym 7) true, .cmp .eql (.sym 16) (.sym 20) true, .cmp .eql (.sym 17) (.int .i64 k) true]
def fZ (k : Int) : List V.Fact := [.cmp .eql (.sym 7) (.int .i64 0) true, .cmp .neq (.sym 9) (.sym 10) false, .cmp .eql (.sym 15) (.sym 7) true, .cmp .eql (.sym 16) (.sym 20) true, .cmp .eql (.sym 17) (.int .i64 k) true]
def fD (p : Bool) (v k : Int) : List V.Fact := [.cmp .eql (.sym 7) (.int .i64 0) true, .cmp .neq (.sym 9) (.sym 10) true, .cmp .lss (.sym 9) (.sym 10) p, .cmp .eql (.sym 15) (.int .i64 v) true, .cmp .eql (.sym 16) (.int .i64 (-v)) true, .cmp .eql (.sym 17) (.int .i64 k) true]
def aF (f : List V.Fact) (p q : Bool) : V.An := { an6 with spec := V.inTbl tF, orc := V.orcOr (V.orcOf f) (V.orcG (gF p q)) }
set_option maxRecDepth 1000000 in
theorem ruFN0 : V.uptoD Try.prog (aF (fN (-1)) true false) 400 pz9 (hW (.dat (.sym 7)) (.dat (.sym 8))) [168, 176] kF 216 = some (.ret, FS (.sym 5) (.sym 6)) := by kernel_rfl
set_option maxRecDepth 1000000 in
theorem ruFZ0 : V.uptoD Try.prog (aF (fZ (-1)) true false) 400 pz9 (hW (.dat (.sym 7)) (.dat (.sym 8))) [168, 176] kF 216 = some (.ret, FS (.sym 5) (.sym 6)) := by kernel_rfl
set_option maxRecDepth 1000000 in
theorem ruFD10 : V.uptoD Try.prog (aF (fD true (-1) (-1)) true false) 400 pz9 (hW (.dat (.sym 7)) (.dat (.sym 8))) [168, 176] kF 216 = some (.ret, FS (.sym 5) (.sym 6)) := by kernel_rfl
set_option maxRecDepth 1000000 in
theorem ruFD00 : V.uptoD Try.prog (aF (fD false 1 (-1)) true false) 400 pz9 (hW (.dat (.sym 7)) (.dat (.sym 8))) [168, 176] kF 216 = some (.ret, FS (.sym 5) (.sym 6)) := by kernel_rfl
set_option maxRecDepth 1000000 in
theorem ruFN1 : V.uptoD Try.prog (aF (fN (1)) false true) 400 pz9 (hW (.dat (.sym 7)) (.dat (.sym 8))) [168, 176] kF 216 = some (.ret, FS (.sym 5) (.sym 6)) := by kernel_rfl
set_option maxRecDepth 1000000 in
theorem ruFZ1 : V.uptoD Try.prog (aF (fZ (1)) false true) 400 pz9 (hW (.dat (.sym 7)) (.dat (.sym 8))) [168, 176] kF 216 = some (.ret, FS (.sym 5) (.sym 6)) := by kernel_rfl
set_option maxRecDepth 1000000 in
theorem ruFD11 : V.uptoD Try.prog (aF (fD true (-1) (1)) false true) 400 pz9 (hW (.dat (.sym 7)) (.dat (.sym 8))) [168, 176] kF 216 = some (.ret, FS (.sym 5) (.sym 6)) := by kernel_rfl
set_option maxRecDepth 1000000 in
theorem ruFD01 : V.uptoD Try.prog (aF (fD false 1 (1)) false true) 400 pz9 (hW (.dat (.sym 7)) (.dat (.sym 8))) [168, 176] kF 216 = some (.ret, FS (.sym 5) (.sym 6)) := by kernel_rfl
set_option maxRecDepth 1000000 in
theorem ruFN2 : V.uptoD Try.prog (aF (fN (0)) false false) 400 pz9 (hW (.dat (.sym 7)) (.dat (.sym 8))) [168, 176] kF 216 = some (.ret, FS (.sym 5) (.sym 6)) := by kernel_rfl
set_option maxRecDepth 1000000 in
theorem ruFZ2 : V.uptoD Try.prog (aF (fZ (0)) false false) 400 pz9 (hW (.dat (.sym 7)) (.dat (.sym 8))) [168, 176] kF 216 = some (.ret, FS (.sym 5) (.sym 6)) := by kernel_rfl
set_option maxRecDepth 1000000 in
theorem ruFD12 : V.uptoD Try.prog (aF (fD true (-1) (0)) false false) 400 pz9 (hW (.dat (.sym 7)) (.dat (.sym 8))) [168, 176] kF 216 = some (.ret, FS (.sym 5) (.sym 6)) := by kernel_rfl
set_option maxRecDepth 1000000 in
theorem ruFD02 : V.uptoD Try.prog (aF (fD false 1 (0)) false false) 400 pz9 (hW (.dat (.sym 7)) (.dat (.sym 8))) [168, 176] kF 216 = some (.ret, FS (.sym 5) (.sym 6)) := by kernel_rfl

/-! What is known, is so. -/
section
variable {a b : List Int} {A B : D}
theorem so30 (s t : ByteArray) (w : Int) (i j : Nat) (h : j < 20) : so a b A B s t w i (30 + j) = .int .i8 (a.getD j 0) := by
  unfold so
  rw [if_neg (by omega), if_pos (by omega), Nat.add_sub_cancel_left]
theorem so50 (s t : ByteArray) (w : Int) (i j : Nat) (h : j < 20) : so a b A B s t w i (50 + j) = .int .i64 (a.getD j 0) := by
  unfold so
  rw [if_neg (by omega), if_neg (by omega), if_pos (by omega), Nat.add_sub_cancel_left]
theorem so70 (s t : ByteArray) (w : Int) (i j : Nat) (h : j < 20) : so a b A B s t w i (70 + j) = .int .i8 (b.getD j 0) := by
  unfold so
  rw [if_neg (by omega), if_neg (by omega), if_neg (by omega), if_pos (by omega), Nat.add_sub_cancel_left]
theorem so90 (s t : ByteArray) (w : Int) (i j : Nat) : so a b A B s t w i (90 + j) = .int .i64 (b.getD j 0) := by
  unfold so
  rw [if_neg (by omega), if_neg (by omega), if_neg (by omega), if_neg (by omega), Nat.add_sub_cancel_left]
theorem rowLen {l : List Int} {d : D} (h : (d = .nil ∧ l = []) ∨ d = .lst (l.map (.int .i8))) : d = .nil ∧ l.length = 0 ∨ ∃ q, d = .lst q ∧ l.length = q.length := by
  rcases h with ⟨h1, h2⟩ | h
  · exact .inl ⟨h1, by rw [h2]; rfl⟩
  · exact .inr ⟨_, h, by simp⟩
theorem rowAt {l : List Int} {d : D} (h : (d = .nil ∧ l = []) ∨ d = .lst (l.map (.int .i8))) {i : Nat} (hi : i < l.length) : d = .lst (l.map (.int .i8)) ∧ (l.map (D.int .i8))[i]? = some (.int .i8 (l.getD i 0)) := by
  rcases h with ⟨_, h2⟩ | h
  · subst h2; simp at hi
  · exact ⟨h, by simp [List.getElem?_map, List.getElem?_eq_getElem hi, List.getD]⟩
theorem sz35 : V.sizeT Try.prog 35 = some 1 := by kernel_rfl
theorem oneOk (z : Int) (k : Nat) [V.Sig] (hk : V.Sig.σ k = .int .i8 z) : ∀ (j : Nat) c y, ([.sym k] : List D)[j]? = some c → (D.int .i8 z).cells[j]? = some y → c = y ∨ ∃ m, c = .sym m ∧ V.Sig.σ m = y := by
  intro j c y hc hy
  simp only [V.D.cells] at hy
  match j with
  | 0 => simp at hc hy; subst hc; subst hy; exact .inr ⟨k, rfl, hk⟩
  | j + 1 => simp at hc
variable (h : Args a b A B) (s t : ByteArray) (w : Int) (i : Nat)
include h
theorem lenA : @V.Gact.ok (V.sigOf (so a b A B s t w i)) Try.prog (.len 45 (.sym 1) (.sym 9)) := ⟨a.length, rfl, .inl ⟨⟨_, Try.underlying45⟩, rowLen h.ha⟩⟩
theorem lenB : @V.Gact.ok (V.sigOf (so a b A B s t w i)) Try.prog (.len 45 (.sym 2) (.sym 10)) := ⟨b.length, rfl, .inl ⟨⟨_, Try.underlying45⟩, rowLen h.hb⟩⟩
theorem gL2ok : ∀ f ∈ gL2, @V.Gact.ok (V.sigOf (so a b A B s t w i)) Try.prog f := by
  intro f hf
  simp only [gL2, List.mem_cons, List.not_mem_nil, or_false] at hf
  rcases hf with rfl | rfl
  · exact lenA h s t w i
  · exact lenB h s t w i
theorem gLen4ok : ∀ f ∈ gLen4, @V.Gact.ok (V.sigOf (so a b A B s t w i)) Try.prog f := by
  intro f hf
  simp only [gLen4, List.mem_cons, List.not_mem_nil, or_false] at hf
  rcases hf with rfl | rfl | rfl | rfl
  · exact lenA h s t w i
  · exact lenB h s t w i
  · exact ⟨s.size, rfl, .inr ⟨Try.underlying9, s, rfl, rfl⟩⟩
  · exact ⟨t.size, rfl, .inr ⟨Try.underlying9, t, rfl, rfl⟩⟩
theorem gL4ok (hi : i < a.length) (hj : i < b.length) : ∀ f ∈ gL4, @V.Gact.ok (V.sigOf (so a b A B s t w i)) Try.prog f := by
  intro f hf
  simp only [gL4, List.mem_cons] at hf
  rcases hf with rfl | rfl | hf
  · obtain ⟨h1, h2⟩ := rowAt h.ha hi
    exact ⟨.i64, i, _, .int .i8 (a.getD i 0), 35, h1, rfl, by omega, by simpa using h2, Try.underlying45, sz35, by show 0 < 1; omega, rfl, @oneOk _ 12 (V.sigOf (so a b A B s t w i)) rfl⟩
  · obtain ⟨h1, h2⟩ := rowAt h.hb hj
    exact ⟨.i64, i, _, .int .i8 (b.getD i 0), 35, h1, rfl, by omega, by simpa using h2, Try.underlying45, sz35, by show 0 < 1; omega, rfl, @oneOk _ 13 (V.sigOf (so a b A B s t w i)) rfl⟩
  · exact gL2ok h s t w i f hf
theorem gXok (hn : a.length ≤ 10) : ∀ f ∈ gX a.length, @V.Gact.ok (V.sigOf (so a b A B s t w i)) Try.prog f := by
  intro f hf
  simp only [gX, List.mem_cons, List.mem_map, List.mem_range] at hf
  rcases hf with rfl | ⟨j, hj, rfl⟩
  · exact ⟨a.length, rfl, .inl ⟨⟨_, Try.underlying45⟩, rowLen h.ha⟩⟩
  · obtain ⟨h1, h2⟩ := rowAt h.ha hj
    exact ⟨.i64, j, _, .int .i8 (a.getD j 0), 35, h1, rfl, by omega, by simpa using h2, Try.underlying45, sz35, by show 0 < 1; omega, rfl, @oneOk _ (30 + j) (V.sigOf (so a b A B s t w i)) (so30 s t w i j (by omega))⟩
theorem gYok (hn : b.length ≤ 10) : ∀ f ∈ gY b.length, @V.Gact.ok (V.sigOf (so a b A B s t w i)) Try.prog f := by
  intro f hf
  simp only [gY, List.mem_cons, List.mem_map, List.mem_range] at hf
  rcases hf with rfl | ⟨j, hj, rfl⟩
  · exact ⟨b.length, rfl, .inl ⟨⟨_, Try.underlying45⟩, rowLen h.hb⟩⟩
  · obtain ⟨h1, h2⟩ := rowAt h.hb hj
    exact ⟨.i64, j, _, .int .i8 (b.getD j 0), 35, h1, rfl, by omega, by simpa using h2, Try.underlying45, sz35, by show 0 < 1; omega, rfl, @oneOk _ (70 + j) (V.sigOf (so a b A B s t w i)) (so70 s t w i j (by omega))⟩
end
theorem getD_in {l : List Int} (hw : ∀ z ∈ l, -128 ≤ z ∧ z ≤ 127) (j : Nat) : -128 ≤ l.getD j 0 ∧ l.getD j 0 ≤ 127 := by
  by_cases hj : j < l.length
  · have : l.getD j 0 = l[j] := by simp [List.getD, List.getElem?_eq_getElem hj]
    rw [this]
    exact hw _ (List.getElem_mem hj)
  · have : l.getD j 0 = 0 := by simp [List.getD, List.getElem?_eq_none (Nat.le_of_not_lt hj)]
    rw [this]
    omega
theorem fX5ok {a b : List Int} {A B : D} (s t : ByteArray) (w : Int) (i : Nat) (hn : a.length ≤ 10) (hw : ∀ z ∈ a, -128 ≤ z ∧ z ≤ 127) : ∀ f ∈ fX5 a.length, @V.Fact.ok (V.sigOf (so a b A B s t w i)) Try.prog f := by
  letI : V.Sig := V.sigOf (so a b A B s t w i)
  intro f hf
  simp only [fX5, List.mem_map, List.mem_range] at hf
  obtain ⟨j, hj, rfl⟩ := hf
  have hb := getD_in hw j
  have e : IntKind.i64.wrap (a.getD j 0) = a.getD j 0 := by rw [V.wr_i64]; omega
  exact V.okv (k := .i8) (j := .i64) (n := a.getD j 0) Try.underlying35 (so30 s t w i j (by omega)) Try.underlying2 (by rw [e]; exact so50 s t w i j (by omega))
theorem fY5ok {a b : List Int} {A B : D} (s t : ByteArray) (w : Int) (i : Nat) (hn : b.length ≤ 10) (hw : ∀ z ∈ b, -128 ≤ z ∧ z ≤ 127) : ∀ f ∈ fY5 b.length, @V.Fact.ok (V.sigOf (so a b A B s t w i)) Try.prog f := by
  letI : V.Sig := V.sigOf (so a b A B s t w i)
  intro f hf
  simp only [fY5, List.mem_map, List.mem_range] at hf
  obtain ⟨j, hj, rfl⟩ := hf
  have hb := getD_in hw j
  have e : IntKind.i64.wrap (b.getD j 0) = b.getD j 0 := by rw [V.wr_i64]; omega
  exact V.okv (k := .i8) (j := .i64) (n := b.getD j 0) Try.underlying35 (so70 s t w i j (by omega)) Try.underlying2 (by rw [e]; exact so90 s t w i j)
theorem goodG {σ : Nat → D} {f : List V.Fact} {g : List V.Gact} (hf : ∀ x ∈ f, @V.Fact.ok (V.sigOf σ) Try.prog x) (hg : ∀ x ∈ g, @V.Gact.ok (V.sigOf σ) Try.prog x) : @V.Good (V.sigOf σ) Try.prog (aG f g) :=
  @V.Good.mk (V.sigOf σ) _ _ named (@V.spec_of_tbl (V.sigOf σ) _ _ (V.TblOk.any tno to6)) (@V.orc_both (V.sigOf σ) _ _ _ hf hg _ rfl)
theorem inMt (σ : Nat → D) : V.inD σ mt = mt := by simp only [mt, V.txt, V.inD]
theorem inRow {σ : Nat → D} {l : List Int} {k : Nat} (hk : ∀ j, j < 10 → σ (k + j) = .int .i64 (l.getD j 0)) (hn : l.length ≤ 10) : V.inD σ (rowX k l.length) = lstV l := by
  cases l with
  | nil => simp only [rowX, List.length_nil, if_pos, V.inD, lstV]
  | cons z r =>
    have h0 : ¬ (z :: r).length = 0 := by simp
    simp only [rowX, if_neg h0, V.inD, lstV, V.inDs_eq, List.map_map]
    congr 1
    refine List.ext_getElem? fun i => ?_
    by_cases hi : i < (z :: r).length
    · rw [List.getElem?_map, List.getElem?_map, List.getElem?_range hi, List.getElem?_eq_getElem hi]
      simp only [Option.map_some, Function.comp, V.inD, V.inDs, hk i (by omega), vI]
      congr 3
      all_goals first | exact inMt σ | simp [List.getD, List.getElem?_eq_getElem hi, inMt]
    · rw [List.getElem?_eq_none (by simpa using Nat.le_of_not_lt hi), List.getElem?_eq_none (by simpa using Nat.le_of_not_lt hi)]

/-! The law. -/
/-- the state at the head of the loop -/
def HW (a b : List Int) (A B : D) (s t : ByteArray) (w : Int) (i : Nat) : V.St := PS A B (.str s) (.str t) (lstV a) (lstV b) (.dat (.int .i64 w)) (.dat (.int .i64 i))
section
variable {a b : List Int} {A B : D} (h : Args a b A B) (s t : ByteArray) (w : Int) (i : Nat)
theorem inHW (u v : V.U) : V.inS (so a b A B s t w i) (hW u v) = PS A B (.str s) (.str t) (lstV a) (lstV b) (V.inU (so a b A B s t w i) u) (V.inU (so a b A B s t w i) v) := by
  rw [hW, inPS]
  rfl
theorem inHead : V.inS (so a b A B s t w i) (hW (.dat (.sym 7)) (.dat (.sym 8))) = HW a b A B s t w i := by
  rw [inHW]
  rfl
include h
theorem outAny (ha : a.length ≤ 10) (hb : b.length ≤ 10) (hi : i ≤ 10) (hx : w ≠ 0 ∨ a.length ≤ i ∨ b.length ≤ i) : @V.Run V.sig0 Try.prog b8 (HW a b A B s t w i) (.exit 4) (HW a b A B s t w i) := by
  have hP := plainO h s t w i
  letI : V.Sig := V.sigOf (so a b A B s t w i)
  by_cases h1 : a.length ≤ i
  · have r := V.Run.ins hP (V.Run.of_uptoD (goodG (f := fO1) (g := gL2) (by
      intro f hf
      simp only [fO1, List.mem_cons, List.not_mem_nil, or_false] at hf
      subst hf
      exact V.okc (k := .i64) (m := i) (n := a.length) rfl rfl (V.c_lssF (by omega))) (gL2ok h s t w i)) regs follows regs5.2.2.2.2.2.2.2.2.1.2 ruO1)
    rw [inHead] at r
    exact r
  · by_cases h2 : b.length ≤ i
    · have r := V.Run.ins hP (V.Run.of_uptoD (goodG (f := fO2) (g := gL2) (by
        intro f hf
        simp only [fO2, List.mem_cons, List.not_mem_nil, or_false] at hf
        rcases hf with rfl | rfl
        · exact V.okc (k := .i64) (m := i) (n := a.length) rfl rfl (V.c_lssT (by omega))
        · exact V.okc (k := .i64) (m := i) (n := b.length) rfl rfl (V.c_lssF (by omega))) (gL2ok h s t w i)) regs follows regs5.2.2.2.2.2.2.2.2.1.2 ruO2)
      rw [inHead] at r
      exact r
    · have hw : w ≠ 0 := by omega
      have r := V.Run.ins hP (V.Run.of_uptoD (goodG (f := fO3) (g := gL2) (by
        intro f hf
        simp only [fO3, List.mem_cons, List.not_mem_nil, or_false] at hf
        rcases hf with rfl | rfl | rfl
        · exact V.okc (k := .i64) (m := i) (n := a.length) rfl rfl (V.c_lssT (by omega))
        · exact V.okc (k := .i64) (m := i) (n := b.length) rfl rfl (V.c_lssT (by omega))
        · exact V.okc (k := .i64) (m := w) (n := 0) rfl rfl (V.c_eqlF hw)) (gL2ok h s t w i)) regs follows regs5.2.2.2.2.2.2.2.2.1.2 ruO3)
      rw [inHead] at r
      exact r
theorem round (i : Nat) (ha : a.length ≤ 10) (hb : b.length ≤ 10) (hi : i < a.length) (hj : i < b.length) :
    @V.Run V.sig0 Try.prog b8 (HW a b A B s t 0 i) .normal (HW a b A B s t (if a.getD i 0 < b.getD i 0 then -1 else if a.getD i 0 > b.getD i 0 then 1 else 0) (i + 1)) := by
  have hP := plainO h s t 0 i
  letI : V.Sig := V.sigOf (so a b A B s t 0 i)
  have base : ∀ f ∈ fIn2, V.Fact.ok Try.prog f := by
    intro f hf
    simp only [fIn2, List.mem_cons, List.not_mem_nil, or_false] at hf
    rcases hf with rfl | rfl | rfl
    · exact V.okc (k := .i64) (m := i) (n := a.length) rfl rfl (V.c_lssT (by omega))
    · exact V.okc (k := .i64) (m := i) (n := b.length) rfl rfl (V.c_lssT (by omega))
    · exact V.oka (k := .i64) (m := i) (n := 1) (r := i + 1) rfl rfl (by simp only [V.ariI, V.wr_i64, Option.some.injEq]; omega) rfl
  by_cases h1 : a.getD i 0 < b.getD i 0
  · rw [if_pos h1]
    have r := V.Run.ins hP (V.Run.of_uptoD (goodG (f := fW true false) (g := gL4) (by
      intro f hf
      simp only [fW, List.mem_cons] at hf
      rcases hf with rfl | rfl | rfl | hf
      · exact V.okc (k := .i64) (m := 0) (n := 0) rfl rfl (V.c_eqlT rfl)
      · exact V.okc (k := .i8) (m := a.getD i 0) (n := b.getD i 0) rfl rfl (V.c_lssT h1)
      · exact V.okc (k := .i8) (m := a.getD i 0) (n := b.getD i 0) rfl rfl (V.c_gtrF (by omega))
      · exact base f hf) (gL4ok h s t 0 i hi hj)) regs follows regs5.2.2.2.2.2.2.2.2.1.2 ruLess)
    rw [inHead, inHW] at r
    exact r
  · rw [if_neg h1]
    by_cases h2 : a.getD i 0 > b.getD i 0
    · rw [if_pos h2]
      have r := V.Run.ins hP (V.Run.of_uptoD (goodG (f := fW false true) (g := gL4) (by
        intro f hf
        simp only [fW, List.mem_cons] at hf
        rcases hf with rfl | rfl | rfl | hf
        · exact V.okc (k := .i64) (m := 0) (n := 0) rfl rfl (V.c_eqlT rfl)
        · exact V.okc (k := .i8) (m := a.getD i 0) (n := b.getD i 0) rfl rfl (V.c_lssF (by omega))
        · exact V.okc (k := .i8) (m := a.getD i 0) (n := b.getD i 0) rfl rfl (V.c_gtrT h2)
        · exact base f hf) (gL4ok h s t 0 i hi hj)) regs follows regs5.2.2.2.2.2.2.2.2.1.2 ruMore)
      rw [inHead, inHW] at r
      exact r
    · rw [if_neg h2]
      have r := V.Run.ins hP (V.Run.of_uptoD (goodG (f := fW false false) (g := gL4) (by
        intro f hf
        simp only [fW, List.mem_cons] at hf
        rcases hf with rfl | rfl | rfl | hf
        · exact V.okc (k := .i64) (m := 0) (n := 0) rfl rfl (V.c_eqlT rfl)
        · exact V.okc (k := .i8) (m := a.getD i 0) (n := b.getD i 0) rfl rfl (V.c_lssF (by omega))
        · exact V.okc (k := .i8) (m := a.getD i 0) (n := b.getD i 0) rfl rfl (V.c_gtrF (by omega))
        · exact base f hf) (gL4ok h s t 0 i hi hj)) regs follows regs5.2.2.2.2.2.2.2.2.1.2 ruSame)
      rw [inHead, inHW] at r
      exact r
/-- what the rounds come to, and what is wanted then -/
theorem rounds (ha : a.length ≤ 10) (hb : b.length ≤ 10) : ∀ k i : Nat, i + k = min a.length b.length → ∃ w j, j ≤ 10 ∧ @V.LRun V.sig0 Try.prog b8 (HW a b A B s t 0 i) (.exit 4) (HW a b A B s t w j) ∧
    ((w ≠ 0 ∧ w = lexC (a.drop i) (b.drop i)) ∨ (w = 0 ∧ lexC (a.drop i) (b.drop i) = if a.length < b.length then -1 else if b.length < a.length then 1 else 0)) := by
  intro k
  induction k with
  | zero =>
    intro i hi
    refine ⟨0, i, by omega, V.LRun.out (outAny h s t 0 i ha hb (by omega) (.inr (by omega))) (by simp), .inr ⟨rfl, ?_⟩⟩
    by_cases h1 : a.length ≤ i
    · rw [lexC_end h1]
      by_cases h2 : i < b.length
      · rw [if_pos h2, if_pos (by omega)]
      · rw [if_neg h2, if_neg (by omega), if_neg (by omega)]
    · rw [lexC_short (by omega) (by omega), if_neg (by omega), if_pos (by omega)]
  | succ k ih =>
    intro i hi
    have hia : i < a.length := by omega
    have hib : i < b.length := by omega
    have r := round h s t i ha hb hia hib
    rw [lexC_drop hia hib]
    by_cases h1 : a.getD i 0 < b.getD i 0
    · rw [if_pos h1] at r ⊢
      exact ⟨-1, i + 1, by omega, V.LRun.step r (V.LRun.out (outAny h s t (-1) (i + 1) ha hb (by omega) (.inl (by omega))) (by simp)), .inl ⟨by omega, rfl⟩⟩
    · rw [if_neg h1] at r ⊢
      by_cases h2 : a.getD i 0 > b.getD i 0
      · rw [if_pos h2] at r ⊢
        exact ⟨1, i + 1, by omega, V.LRun.step r (V.LRun.out (outAny h s t 1 (i + 1) ha hb (by omega) (.inl (by omega))) (by simp)), .inl ⟨by omega, rfl⟩⟩
      · rw [if_neg h2] at r ⊢
        obtain ⟨w, j, hj, hr, he⟩ := ih (i + 1) (by omega)
        exact ⟨w, j, hj, V.LRun.step r hr, he⟩
end


theorem inR0 (σ : Nat → D) (a b s t x y : D) : V.inS σ (PS a b s t x y .junk .junk) = PS (V.inD σ a) (V.inD σ b) (V.inD σ s) (V.inD σ t) (V.inD σ x) (V.inD σ y) .junk .junk := by
  rw [inPS]
  simp only [V.inU]
/-- what is said of texts -/
theorem textOk (s t : ByteArray) : (cB s t = -1 ∧ V.strI .lss s t = some true ∧ V.strI .gtr s t = some false) ∨ (cB s t = 1 ∧ V.strI .lss s t = some false ∧ V.strI .gtr s t = some true) ∨ (cB s t = 0 ∧ V.strI .lss s t = some false ∧ V.strI .gtr s t = some false) := by
  simp only [cB, bytes3, V.strI, ByteArray.toList_eq]
  cases h1 : Op.bytesLess s.data.toList t.data.toList
  · cases h2 : (s.data.toList == t.data.toList)
    · exact .inr (.inl ⟨by simp, rfl, rfl⟩)
    · exact .inr (.inr ⟨by simp, rfl, rfl⟩)
  · exact .inl ⟨by simp, rfl, by simp⟩
section
variable {a b : List Int} {A B : D} (h : Args a b A B) (s t : ByteArray)
include h
theorem tFok (w : Int) (i : Nat) (ha : a.length ≤ 10) (hb : b.length ≤ 10) : @V.TblOk (V.sigOf (so a b A B s t w i)) Try.prog tF := by
  have hP := plainO h s t w i
  have h1 : @V.Holds (V.sigOf (so a b A B s t w i)) Try.prog 13 [xV (.sym 5), xV (.sym 6)] [.sym 15] := V.Holds.outs hP (cmpL a b (by omega) (by omega))
  have h2 : @V.Holds (V.sigOf (so a b A B s t w i)) Try.prog 13 [xV (.sym 6), xV (.sym 5)] [.sym 16] := V.Holds.outs hP (cmpL b a (by omega) (by omega))
  have h3 : @V.Holds (V.sigOf (so a b A B s t w i)) Try.prog 13 [tV (.sym 3), tV (.sym 4)] [.sym 17] := V.Holds.outs hP (cmpT s t)
  letI : V.Sig := V.sigOf (so a b A B s t w i)
  exact V.TblOk.cons (V.RowOk.cons h1 (V.RowOk.cons h2 (V.RowOk.cons h3 V.RowOk.nil))) V.TblOk.nil
theorem goodF (w : Int) (i : Nat) (ha : a.length ≤ 10) (hb : b.length ≤ 10) {f : List V.Fact} {p q : Bool} (hf : ∀ x ∈ f, @V.Fact.ok (V.sigOf (so a b A B s t w i)) Try.prog x) (hp : V.strI .lss s t = some p) (hq : V.strI .gtr s t = some q) :
    @V.Good (V.sigOf (so a b A B s t w i)) Try.prog (aF f p q) := by
  refine @V.Good.mk (V.sigOf (so a b A B s t w i)) _ _ named (@V.spec_of_tbl (V.sigOf (so a b A B s t w i)) _ _ (tFok h s t w i ha hb)) (@V.orc_both (V.sigOf (so a b A B s t w i)) _ f (gF p q) hf ?_ _ rfl)
  intro x hx
  simp only [gF, List.mem_cons] at hx
  rcases hx with rfl | rfl | rfl | hx
  · exact ⟨s, t, rfl, rfl, hp⟩
  · exact ⟨s, t, rfl, rfl, hq⟩
  · exact ⟨.i64, w, rfl, rfl⟩
  · exact gL2ok h s t w i x hx
theorem small (l m : List Int) : lexC l m = -1 ∨ lexC l m = 0 ∨ lexC l m = 1 := by
  have _h := h
  induction l generalizing m with
  | nil => cases m <;> simp [lexC]
  | cons x l ih =>
    cases m with
    | nil => simp [lexC]
    | cons y m =>
      simp only [lexC]
      split
      · exact .inl rfl
      · split
        · exact .inr (.inr rfl)
        · exact ih m
theorem ends (w : Int) (i : Nat) (ha : a.length ≤ 10) (hb : b.length ≤ 10) (hw : (w ≠ 0 ∧ w = lexC a b) ∨ (w = 0 ∧ lexC a b = if a.length < b.length then -1 else if b.length < a.length then 1 else 0)) :
    @V.Run V.sig0 Try.prog pz9 (HW a b A B s t w i) .ret (FS (lstV a) (lstV b)) := by
  have hP := plainO h s t w i
  have hneg := lexC_neg a b
  have hsm := small h a b
  letI : V.Sig := V.sigOf (so a b A B s t w i)
  have fin : ∀ {f : List V.Fact} {p q : Bool}, V.uptoD Try.prog (aF f p q) 400 pz9 (hW (.dat (.sym 7)) (.dat (.sym 8))) [168, 176] kF 216 = some (.ret, FS (.sym 5) (.sym 6)) → (∀ x ∈ f, V.Fact.ok Try.prog x) → V.strI .lss s t = some p → V.strI .gtr s t = some q →
      @V.Run V.sig0 Try.prog pz9 (HW a b A B s t w i) .ret (FS (lstV a) (lstV b)) := by
    intro f p q hr hf hp hq
    have r := V.Run.ins hP (V.Run.of_uptoD (goodF h s t w i ha hb hf hp hq) regs follows regs5.2.2.2.2.2.2.2.2.2 hr)
    rw [inHead, inFS] at r
    exact r
  have fNok : ∀ k, w ≠ 0 → w = lexC a b → cB s t = k → ∀ x ∈ fN k, V.Fact.ok Try.prog x := by
    intro k h1 h2 h3 f hf
    simp only [fN, List.mem_cons, List.not_mem_nil, or_false] at hf
    rcases hf with rfl | rfl | rfl | rfl
    · exact V.okc (k := .i64) (m := w) (n := 0) rfl rfl (V.c_eqlF h1)
    · exact V.okc (k := .i64) (m := lexC a b) (n := w) rfl rfl (V.c_eqlT h2.symm)
    · exact V.okc (k := .i64) (m := lexC b a) (n := IntKind.i64.wrap (-w)) rfl rfl (V.c_eqlT (by rw [V.wr_i64]; omega))
    · exact V.okc (k := .i64) (m := cB s t) (n := k) rfl rfl (V.c_eqlT h3)
  have fZok : ∀ k, w = 0 → lexC a b = 0 → a.length = b.length → cB s t = k → ∀ x ∈ fZ k, V.Fact.ok Try.prog x := by
    intro k h1 h2 h3 h4 f hf
    simp only [fZ, List.mem_cons, List.not_mem_nil, or_false] at hf
    rcases hf with rfl | rfl | rfl | rfl | rfl
    · exact V.okc (k := .i64) (m := w) (n := 0) rfl rfl (V.c_eqlT h1)
    · exact V.okc (k := .i64) (m := a.length) (n := b.length) rfl rfl (V.c_neqF (by omega))
    · exact V.okc (k := .i64) (m := lexC a b) (n := w) rfl rfl (V.c_eqlT (by omega))
    · exact V.okc (k := .i64) (m := lexC b a) (n := IntKind.i64.wrap (-w)) rfl rfl (V.c_eqlT (by rw [V.wr_i64]; omega))
    · exact V.okc (k := .i64) (m := cB s t) (n := k) rfl rfl (V.c_eqlT h4)
  have fD1ok : ∀ k, w = 0 → lexC a b = -1 → a.length < b.length → cB s t = k → ∀ x ∈ fD true (-1) k, V.Fact.ok Try.prog x := by
    intro k h1 h2 h3 h4 f hf
    simp only [fD, List.mem_cons, List.not_mem_nil, or_false] at hf
    rcases hf with rfl | rfl | rfl | rfl | rfl | rfl
    · exact V.okc (k := .i64) (m := w) (n := 0) rfl rfl (V.c_eqlT h1)
    · exact V.okc (k := .i64) (m := a.length) (n := b.length) rfl rfl (V.c_neqT (by omega))
    · exact V.okc (k := .i64) (m := a.length) (n := b.length) rfl rfl (V.c_lssT (by omega))
    · exact V.okc (k := .i64) (m := lexC a b) (n := -1) rfl rfl (V.c_eqlT (by omega))
    · exact V.okc (k := .i64) (m := lexC b a) (n := -(-1)) rfl rfl (V.c_eqlT (by omega))
    · exact V.okc (k := .i64) (m := cB s t) (n := k) rfl rfl (V.c_eqlT h4)
  have fD0ok : ∀ k, w = 0 → lexC a b = 1 → b.length < a.length → cB s t = k → ∀ x ∈ fD false 1 k, V.Fact.ok Try.prog x := by
    intro k h1 h2 h3 h4 f hf
    simp only [fD, List.mem_cons, List.not_mem_nil, or_false] at hf
    rcases hf with rfl | rfl | rfl | rfl | rfl | rfl
    · exact V.okc (k := .i64) (m := w) (n := 0) rfl rfl (V.c_eqlT h1)
    · exact V.okc (k := .i64) (m := a.length) (n := b.length) rfl rfl (V.c_neqT (by omega))
    · exact V.okc (k := .i64) (m := a.length) (n := b.length) rfl rfl (V.c_lssF (by omega))
    · exact V.okc (k := .i64) (m := lexC a b) (n := 1) rfl rfl (V.c_eqlT (by omega))
    · exact V.okc (k := .i64) (m := lexC b a) (n := -1) rfl rfl (V.c_eqlT (by omega))
    · exact V.okc (k := .i64) (m := cB s t) (n := k) rfl rfl (V.c_eqlT h4)
  rcases hw with ⟨h1, h2⟩ | ⟨h1, h2⟩
  · rcases textOk s t with ⟨hc, hp, hq⟩ | ⟨hc, hp, hq⟩ | ⟨hc, hp, hq⟩
    · exact fin ruFN0 (fNok _ h1 h2 hc) hp hq
    · exact fin ruFN1 (fNok _ h1 h2 hc) hp hq
    · exact fin ruFN2 (fNok _ h1 h2 hc) hp hq
  · by_cases hl : a.length < b.length
    · rw [if_pos hl] at h2
      rcases textOk s t with ⟨hc, hp, hq⟩ | ⟨hc, hp, hq⟩ | ⟨hc, hp, hq⟩
      · exact fin ruFD10 (fD1ok _ h1 h2 hl hc) hp hq
      · exact fin ruFD11 (fD1ok _ h1 h2 hl hc) hp hq
      · exact fin ruFD12 (fD1ok _ h1 h2 hl hc) hp hq
    · rw [if_neg hl] at h2
      by_cases hg : b.length < a.length
      · rw [if_pos hg] at h2
        rcases textOk s t with ⟨hc, hp, hq⟩ | ⟨hc, hp, hq⟩ | ⟨hc, hp, hq⟩
        · exact fin ruFD00 (fD0ok _ h1 h2 hg hc) hp hq
        · exact fin ruFD01 (fD0ok _ h1 h2 hg hc) hp hq
        · exact fin ruFD02 (fD0ok _ h1 h2 hg hc) hp hq
      · rw [if_neg hg] at h2
        rcases textOk s t with ⟨hc, hp, hq⟩ | ⟨hc, hp, hq⟩ | ⟨hc, hp, hq⟩
        · exact fin ruFZ0 (fZok _ h1 h2 (by omega) hc) hp hq
        · exact fin ruFZ1 (fZok _ h1 h2 (by omega) hc) hp hq
        · exact fin ruFZ2 (fZok _ h1 h2 (by omega) hc) hp hq
/-- the law's whole run -/
theorem whole (hwa : ∀ z ∈ a, -128 ≤ z ∧ z ≤ 127) (hwb : ∀ z ∈ b, -128 ≤ z ∧ z ≤ 127) :
    ∃ sF, @V.Run V.sig0 Try.prog c5 ⟨[.dat A, .dat B, .dat (.str s), .dat (.str t)] ++ List.replicate 144 .undef, [], 0⟩ .ret sF ∧ Try.f5.results.toList.mapM (V.resU Try.prog (V.getO sF.st) sF.tm) = some [.dat (.bool true)] := by
  have hP := plainO h s t 0 0
  have hB := goodB (V.sigOf (so a b A B s t 0 0))
  obtain ⟨g0, g1, g2, g3, g4, g5, g6, g7, ⟨g8, gb⟩, g9⟩ := regs5
  have e0 : V.inS (so a b A B s t 0 0) y0 = ⟨[.dat A, .dat B, .dat (.str s), .dat (.str t)] ++ List.replicate 144 .undef, [], 0⟩ := by
    simp only [y0, V.inS, V.inUs_eq, List.map_append, List.map_cons, List.map_nil, V.inU, List.map_replicate, V.inSt]
    rfl
  have hgl := gLen4ok h s t 0 0
  letI : V.Sig := V.sigOf (so a b A B s t 0 0)
  have r0 := V.Run.ins hP (V.Run.of_exec hB regs follows g0 ru0)
  have r1 := V.Run.ins hP (V.Run.of_exec hB regs follows g1 ru1)
  rw [e0] at r0
  rw [shape5]
  have early : ∀ {f : List V.Fact}, V.uptoD Try.prog (aG f gLen4) 400 pz2 y2 [] kF 216 = some (.ret, F0) → (∀ x ∈ f, V.Fact.ok Try.prog x) →
      ∃ sF, @V.Run V.sig0 Try.prog (.seq pz0 (.seq pz1 (.seq pz2 (.seq pz3 (.seq pz4 (.seq pz5 (.seq pz6 (.seq pz7 (.seq (.seq pz8 (.block 4 (.loop b8))) pz9))))))))) ⟨[.dat A, .dat B, .dat (.str s), .dat (.str t)] ++ List.replicate 144 .undef, [], 0⟩ .ret sF ∧ Try.f5.results.toList.mapM (V.resU Try.prog (V.getO sF.st) sF.tm) = some [.dat (.bool true)] := by
    intro f hr hf
    have r2 := V.Run.ins hP (V.Run.of_uptoD (goodG hf hgl) regs follows g2 hr)
    rw [inF0] at r2
    letI : V.Sig := V.sig0
    exact ⟨F0, V.Run.seq r0 (V.Run.seq r1 (V.Run.seq_out r2 (by simp))), by kernel_rfl⟩
  by_cases ha : a.length ≤ 10
  · by_cases hb : b.length ≤ 10
    · by_cases hs : s.size ≤ 20
      · by_cases ht : t.size ≤ 20
        · have r2 := V.Run.ins hP (V.Run.of_exec (goodG (f := fIn false false false false) (by
            intro f hf
            simp only [fIn, List.mem_cons, List.not_mem_nil, or_false] at hf
            rcases hf with rfl | rfl | rfl | rfl
            · exact V.okc (k := .i64) (m := a.length) (n := 10) rfl rfl (V.c_gtrF (by omega))
            · exact V.okc (k := .i64) (m := b.length) (n := 10) rfl rfl (V.c_gtrF (by omega))
            · exact V.okc (k := .i64) (m := s.size) (n := 20) rfl rfl (V.c_gtrF (by omega))
            · exact V.okc (k := .i64) (m := t.size) (n := 20) rfl rfl (V.c_gtrF (by omega))) hgl) regs follows g2 ru2)
          have r3 := V.Run.ins hP (V.Run.of_exec hB regs follows g3 ru3)
          have r4 := V.Run.ins hP (V.Run.of_uptoD hB regs follows g4 ru4)
          have r5 := V.Run.ins hP (V.Run.of_uptoD (goodG (fX5ok s t 0 0 ha hwa) (gXok h s t 0 0 ha)) regs follows g5 (ruX a.length ha))
          have r6 := V.Run.ins hP (V.Run.of_uptoD (goodG (fY5ok s t 0 0 hb hwb) (gYok h s t 0 0 hb)) regs follows g6 (ruY b.length hb))
          have r7 := V.Run.ins hP (V.Run.of_uptoD hB regs follows g7 ru7)
          have r8 := V.Run.ins hP (V.Run.of_uptoD hB regs follows g8 ru8)
          have eX : V.inD (so a b A B s t 0 0) (rowX 50 a.length) = lstV a := inRow (fun j hj => so50 s t 0 0 j (by omega)) ha
          have eY : V.inD (so a b A B s t 0 0) (rowX 90 b.length) = lstV b := inRow (fun j hj => so90 s t 0 0 j) hb
          rw [inR0] at r4
          rw [inR0, inR0, eX] at r5
          rw [inR0, inR0, eY] at r6
          rw [inHW, inHW] at r7
          rw [inHW, inHW] at r8
          obtain ⟨w, j, hj, hl, he⟩ := rounds h s t ha hb (min a.length b.length) 0 (by omega)
          simp only [List.drop_zero] at he
          have r9 := ends h s t w j ha hb he
          letI : V.Sig := V.sig0
          exact ⟨_, V.Run.seq r0 (V.Run.seq r1 (V.Run.seq r2 (V.Run.seq r3 (V.Run.seq r4 (V.Run.seq r5 (V.Run.seq r6 (V.Run.seq r7 (V.Run.seq (V.Run.seq r8 (V.Run.block_to (V.Run.loop hl))) r9)))))))), by kernel_rfl⟩
        · refine early ruE3 ?_
          intro f hf
          simp only [fE3, List.mem_cons, List.not_mem_nil, or_false] at hf
          rcases hf with rfl | rfl | rfl | rfl
          · exact V.okc (k := .i64) (m := a.length) (n := 10) rfl rfl (V.c_gtrF (by omega))
          · exact V.okc (k := .i64) (m := b.length) (n := 10) rfl rfl (V.c_gtrF (by omega))
          · exact V.okc (k := .i64) (m := s.size) (n := 20) rfl rfl (V.c_gtrF (by omega))
          · exact V.okc (k := .i64) (m := t.size) (n := 20) rfl rfl (V.c_gtrT (by omega))
      · refine early ruE2 ?_
        intro f hf
        simp only [fE2, List.mem_cons, List.not_mem_nil, or_false] at hf
        rcases hf with rfl | rfl | rfl
        · exact V.okc (k := .i64) (m := a.length) (n := 10) rfl rfl (V.c_gtrF (by omega))
        · exact V.okc (k := .i64) (m := b.length) (n := 10) rfl rfl (V.c_gtrF (by omega))
        · exact V.okc (k := .i64) (m := s.size) (n := 20) rfl rfl (V.c_gtrT (by omega))
    · refine early ruE1 ?_
      intro f hf
      simp only [fE1, List.mem_cons, List.not_mem_nil, or_false] at hf
      rcases hf with rfl | rfl
      · exact V.okc (k := .i64) (m := a.length) (n := 10) rfl rfl (V.c_gtrF (by omega))
      · exact V.okc (k := .i64) (m := b.length) (n := 10) rfl rfl (V.c_gtrT (by omega))
  · refine early ruE0 ?_
    intro f hf
    simp only [fE0, List.mem_cons, List.not_mem_nil, or_false] at hf
    subst hf
    exact V.okc (k := .i64) (m := a.length) (n := 10) rfl rfl (V.c_gtrT (by omega))
end
theorem argRow {W : World} {a : Option Addr} {len cap : Nat} {zs : List Int}
    (w : (a = none ∧ len = 0 ∧ cap = 0 ∧ zs = []) ∨ ∃ x, a = some x ∧ len ≤ cap ∧ cap ≤ maxLen ∧ zs.length = cap ∧ (∀ i, i < zs.length → W.cell? (x.add i) = some (.int .i8 (zs.getD i 0))) ∧ ∀ n ∈ zs, (Lit.int .i8 n).wf = true) :
    ((V.rowD .i8 a len zs = .nil ∧ zs.take len = []) ∨ V.rowD .i8 a len zs = .lst ((zs.take len).map (.int .i8))) ∧ ∀ z ∈ zs.take len, -128 ≤ z ∧ z ≤ 127 := by
  rcases w with ⟨rfl, rfl, rfl, rfl⟩ | ⟨x, rfl, _, _, _, _, hz⟩
  · exact ⟨.inl ⟨rfl, rfl⟩, fun z hz => by simp at hz⟩
  · refine ⟨.inr rfl, fun z hm => ?_⟩
    have := V.wf_int (hz z (List.mem_of_mem_take hm))
    simpa [IntKind.min, IntKind.max, IntKind.signed, IntKind.bits] using this
theorem OrderLists (W : World) (a0 : Option Addr) (len0 cap0 : Nat) (z0 : List Int) (a1 : Option Addr) (len1 cap1 : Nat) (z1 : List Int) (a2 a3 : ByteArray)
    (w0 : (a0 = none ∧ len0 = 0 ∧ cap0 = 0 ∧ z0 = []) ∨ ∃ x, a0 = some x ∧ len0 ≤ cap0 ∧ cap0 ≤ maxLen ∧ z0.length = cap0 ∧ (∀ i, i < z0.length → W.cell? (x.add i) = some (.int .i8 (z0.getD i 0))) ∧ ∀ n ∈ z0, (Lit.int .i8 n).wf = true)
    (w1 : (a1 = none ∧ len1 = 0 ∧ cap1 = 0 ∧ z1 = []) ∨ ∃ x, a1 = some x ∧ len1 ≤ cap1 ∧ cap1 ≤ maxLen ∧ z1.length = cap1 ∧ (∀ i, i < z1.length → W.cell? (x.add i) = some (.int .i8 (z1.getD i 0))) ∧ ∀ n ∈ z1, (Lit.int .i8 n).wf = true) :
    Calls Try.prog 5 #[.slice a0 len0 cap0, .slice a1 len1 cap1, .string a2, .string a3] W (fun e W' => e = .returned (.bool true) ∧ Below W.heap.size W W') := by
  obtain ⟨hA, hwa⟩ := argRow w0
  obtain ⟨hB, hwb⟩ := argRow w1
  obtain ⟨sF, hr, hres⟩ := whole ⟨hA, hB⟩ a2 a3 hwa hwb
  exact V.law_of_run (us0 := [.dat (V.rowD .i8 a0 len0 z0), .dat (V.rowD .i8 a1 len1 z1), .dat (.str a2), .dat (.str a3)]) Try.func5 body5 hr (.inr rfl) hres
    (V.args_cons (V.rep_row w0) (V.args_cons (V.rep_row w1) (V.args_cons (.str _) (V.args_cons (.str _) V.args_nil))))

end Go.Proofs.Ytdgihefkagoicaa.Say
