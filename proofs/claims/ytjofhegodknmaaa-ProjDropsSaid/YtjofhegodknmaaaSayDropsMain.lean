/- Of a struct just the fields that the other one has stay: the law, whole. Mine. -/
import Derived.Test.YtjofhegodknmaaaSayDropsData
set_option linter.unusedVariables false
set_option linter.unusedSimpArgs false
namespace Go.Proofs.Ytjofhegodknmaaa.Say
open Go Go.RowKit
open V (D)

def aIoD : V.An := { anE with io := fun f => [16,17,24,25,68,69,98,99,101,120,121,122,123,130,131,132,133,134,137,138,139,140,141].contains f }
theorem goodIoD (s : V.Sig) : @V.Good s Try.prog aIoD := @V.Good.mk s _ _ named (fun _ _ _ h => nomatch h) (fun _ _ _ _ h => nomatch h) (V.call_none rfl)
set_option maxRecDepth 1000000 in
theorem runBegunD : V.tells Try.prog aIoD 400 9 [] [.bool true] = true := by kernel_rfl
theorem begunHoldsD {s : V.Sig} : @V.Holds s Try.prog 9 [] [.bool true] := @V.holds_of_tells s _ _ (goodIoD s) regs follows _ _ _ _ runBegunD
def tBD : V.Tbl := [(9, [([], [.bool true])])]
def aBeD : V.An := { anE with spec := V.inTbl tBD }
theorem tBDOk {s : V.Sig} : @V.TblOk s Try.prog tBD := @V.TblOk.cons s _ _ _ _ (@V.RowOk.cons s _ _ _ _ _ (@begunHoldsD s) (@V.RowOk.nil s _ _)) (@V.TblOk.nil s _)
theorem goodBeD (s : V.Sig) : @V.Good s Try.prog aBeD := by
  have h := @tBDOk s
  exact @V.Good.mk s _ _ named (@V.spec_of_tbl s _ _ h) (fun _ _ _ _ h => nomatch h) (@V.call_none s _ _ rfl)
theorem ed3 : d3 = .region 3 (ops d3) false := by kernel_rfl
theorem ed5 : d5 = .region 5 (ops d5) false := by kernel_rfl
theorem ed6 : d6 = .region 6 (ops d6) false := by kernel_rfl
theorem ed7 : d7 = .region 7 (ops d7) false := by kernel_rfl
def zOD (h k : D) (n : Int) : V.St := ⟨[.dat h, .dat k, .dat (.int .i8 n)] ++ List.replicate 127 .undef, [], 0⟩
def zA0 (h k : D) (n : Int) : V.St := ⟨[.dat h, .dat k, .dat (.int .i8 n), .undef, .undef, .undef, .dat (.bool false)] ++ List.replicate 123 .undef, [], 8⟩
def zA1 (h k : D) (n : Int) : V.St := ⟨[.dat h, .dat k, .dat (.int .i8 n), .undef, .undef, .undef, .dat (.bool false)] ++ List.replicate 10 .undef ++ [.dat (.bool true), .dat (.bool false)] ++ List.replicate 111 .undef, [], 24⟩
def zA3 (h k : D) (n : Int) (b : Bool) : V.St := ⟨[.dat h, .dat k, .dat (.int .i8 n)] ++ List.replicate 23 .junk ++ [.dat (.bool b)] ++ List.replicate 103 .junk, [], 88⟩
def kA3 : List Bool := [true, true, true] ++ List.replicate 23 false ++ [true]
theorem runAD (h k : D) (n : Int) : V.exec Try.prog aBeD 400 d0 (zOD h k n) = some (.normal, zA0 h k n) ∧ V.exec Try.prog aBeD 400 d1 (zA0 h k n) = some (.normal, zA1 h k n) := ⟨by kernel_rfl, by kernel_rfl⟩
theorem dm3_long {L M : List D} {k : D} {n : Int} (hr1 : V.cmpI .gtr (L.length : Int) 12 = some true) : V.Run Try.prog d3 (zA1 (.lst L) k n) .normal (zA3 (.lst L) k n true) := by
  rw [ed3]
  apply V.Run.stepsL (goodE _) regs follows (keep := kA3) (ids := []) (nx := 88) (by rw [← ed3]; exact regsDm.2.2.1.1)
  · apply V.Steps.auto; kernel_rfl; kernel_rfl; kernel_rfl; kernel_rfl
    apply V.Steps.auto; kernel_rfl; kernel_rfl; kernel_rfl; kernel_rfl
    apply V.Steps.op; kernel_rfl; kernel_rfl; kernel_rfl; exact ((V.st_cmp (op := .gtr) (x := .tmp 20) (y := .const (.int .i64 12)) (k := .i64) (m := (L.length : Int)) (n := 12) (r := true) (by kernel_rfl) (by kernel_rfl) (by kernel_rfl) hr1))
    apply V.Steps.auto; kernel_rfl; kernel_rfl; kernel_rfl; kernel_rfl
    apply V.Steps.skip; kernel_rfl; kernel_rfl
    apply V.Steps.skip; kernel_rfl; kernel_rfl
    apply V.Steps.skip; kernel_rfl; kernel_rfl
    apply V.Steps.auto; kernel_rfl; kernel_rfl; kernel_rfl; kernel_rfl
    exact V.Steps.done (by kernel_rfl) rfl
  · rfl
  · exact V.AllKept.nil
  · kernel_rfl
  · kernel_rfl
  · kernel_rfl
  · kernel_rfl
theorem dm3_ll {L M : List D} {k : D} {n : Int} (hr1 : V.cmpI .gtr (L.length : Int) 12 = some false) {r : Bool} (hr2 : V.cmpI .gtr (M.length : Int) 12 = some r) : V.Run Try.prog d3 (zA1 (.lst L) (.lst M) n) .normal (zA3 (.lst L) (.lst M) n r) := by
  rw [ed3]
  apply V.Run.stepsL (goodE _) regs follows (keep := kA3) (ids := []) (nx := 88) (by rw [← ed3]; exact regsDm.2.2.1.1)
  · apply V.Steps.auto; kernel_rfl; kernel_rfl; kernel_rfl; kernel_rfl
    apply V.Steps.auto; kernel_rfl; kernel_rfl; kernel_rfl; kernel_rfl
    apply V.Steps.op; kernel_rfl; kernel_rfl; kernel_rfl; exact ((V.st_cmp (op := .gtr) (x := .tmp 20) (y := .const (.int .i64 12)) (k := .i64) (m := (L.length : Int)) (n := 12) (r := false) (by kernel_rfl) (by kernel_rfl) (by kernel_rfl) hr1))
    apply V.Steps.auto; kernel_rfl; kernel_rfl; kernel_rfl; kernel_rfl
    apply V.Steps.auto; kernel_rfl; kernel_rfl; kernel_rfl; kernel_rfl
    apply V.Steps.auto; kernel_rfl; kernel_rfl; kernel_rfl; kernel_rfl
    apply V.Steps.op; kernel_rfl; kernel_rfl; kernel_rfl; exact ((V.st_cmp (op := .gtr) (x := .tmp 24) (y := .const (.int .i64 12)) (k := .i64) (m := (M.length : Int)) (n := 12) (r := r) (by kernel_rfl) (by kernel_rfl) (by kernel_rfl) hr2))
    apply V.Steps.auto; kernel_rfl; kernel_rfl; kernel_rfl; kernel_rfl
    exact V.Steps.done (by kernel_rfl) rfl
  · rfl
  · exact V.AllKept.nil
  · kernel_rfl
  · kernel_rfl
  · kernel_rfl
  · kernel_rfl
theorem dm3_ln {L M : List D} {k : D} {n : Int} (hr1 : V.cmpI .gtr (L.length : Int) 12 = some false) {r : Bool} (hr2 : V.cmpI .gtr 0 12 = some r) : V.Run Try.prog d3 (zA1 (.lst L) .nil n) .normal (zA3 (.lst L) .nil n r) := by
  rw [ed3]
  apply V.Run.stepsL (goodE _) regs follows (keep := kA3) (ids := []) (nx := 88) (by rw [← ed3]; exact regsDm.2.2.1.1)
  · apply V.Steps.auto; kernel_rfl; kernel_rfl; kernel_rfl; kernel_rfl
    apply V.Steps.auto; kernel_rfl; kernel_rfl; kernel_rfl; kernel_rfl
    apply V.Steps.op; kernel_rfl; kernel_rfl; kernel_rfl; exact ((V.st_cmp (op := .gtr) (x := .tmp 20) (y := .const (.int .i64 12)) (k := .i64) (m := (L.length : Int)) (n := 12) (r := false) (by kernel_rfl) (by kernel_rfl) (by kernel_rfl) hr1))
    apply V.Steps.auto; kernel_rfl; kernel_rfl; kernel_rfl; kernel_rfl
    apply V.Steps.auto; kernel_rfl; kernel_rfl; kernel_rfl; kernel_rfl
    apply V.Steps.auto; kernel_rfl; kernel_rfl; kernel_rfl; kernel_rfl
    apply V.Steps.op; kernel_rfl; kernel_rfl; kernel_rfl; exact ((V.st_cmp (op := .gtr) (x := .tmp 24) (y := .const (.int .i64 12)) (k := .i64) (m := 0) (n := 12) (r := r) (by kernel_rfl) (by kernel_rfl) (by kernel_rfl) hr2))
    apply V.Steps.auto; kernel_rfl; kernel_rfl; kernel_rfl; kernel_rfl
    exact V.Steps.done (by kernel_rfl) rfl
  · rfl
  · exact V.AllKept.nil
  · kernel_rfl
  · kernel_rfl
  · kernel_rfl
  · kernel_rfl
theorem dm3_nl {L M : List D} {k : D} {n : Int} (hr1 : V.cmpI .gtr 0 12 = some false) {r : Bool} (hr2 : V.cmpI .gtr (M.length : Int) 12 = some r) : V.Run Try.prog d3 (zA1 .nil (.lst M) n) .normal (zA3 .nil (.lst M) n r) := by
  rw [ed3]
  apply V.Run.stepsL (goodE _) regs follows (keep := kA3) (ids := []) (nx := 88) (by rw [← ed3]; exact regsDm.2.2.1.1)
  · apply V.Steps.auto; kernel_rfl; kernel_rfl; kernel_rfl; kernel_rfl
    apply V.Steps.auto; kernel_rfl; kernel_rfl; kernel_rfl; kernel_rfl
    apply V.Steps.op; kernel_rfl; kernel_rfl; kernel_rfl; exact ((V.st_cmp (op := .gtr) (x := .tmp 20) (y := .const (.int .i64 12)) (k := .i64) (m := 0) (n := 12) (r := false) (by kernel_rfl) (by kernel_rfl) (by kernel_rfl) hr1))
    apply V.Steps.auto; kernel_rfl; kernel_rfl; kernel_rfl; kernel_rfl
    apply V.Steps.auto; kernel_rfl; kernel_rfl; kernel_rfl; kernel_rfl
    apply V.Steps.auto; kernel_rfl; kernel_rfl; kernel_rfl; kernel_rfl
    apply V.Steps.op; kernel_rfl; kernel_rfl; kernel_rfl; exact ((V.st_cmp (op := .gtr) (x := .tmp 24) (y := .const (.int .i64 12)) (k := .i64) (m := (M.length : Int)) (n := 12) (r := r) (by kernel_rfl) (by kernel_rfl) (by kernel_rfl) hr2))
    apply V.Steps.auto; kernel_rfl; kernel_rfl; kernel_rfl; kernel_rfl
    exact V.Steps.done (by kernel_rfl) rfl
  · rfl
  · exact V.AllKept.nil
  · kernel_rfl
  · kernel_rfl
  · kernel_rfl
  · kernel_rfl
theorem dm3_nn {L M : List D} {k : D} {n : Int} (hr1 : V.cmpI .gtr 0 12 = some false) {r : Bool} (hr2 : V.cmpI .gtr 0 12 = some r) : V.Run Try.prog d3 (zA1 .nil .nil n) .normal (zA3 .nil .nil n r) := by
  rw [ed3]
  apply V.Run.stepsL (goodE _) regs follows (keep := kA3) (ids := []) (nx := 88) (by rw [← ed3]; exact regsDm.2.2.1.1)
  · apply V.Steps.auto; kernel_rfl; kernel_rfl; kernel_rfl; kernel_rfl
    apply V.Steps.auto; kernel_rfl; kernel_rfl; kernel_rfl; kernel_rfl
    apply V.Steps.op; kernel_rfl; kernel_rfl; kernel_rfl; exact ((V.st_cmp (op := .gtr) (x := .tmp 20) (y := .const (.int .i64 12)) (k := .i64) (m := 0) (n := 12) (r := false) (by kernel_rfl) (by kernel_rfl) (by kernel_rfl) hr1))
    apply V.Steps.auto; kernel_rfl; kernel_rfl; kernel_rfl; kernel_rfl
    apply V.Steps.auto; kernel_rfl; kernel_rfl; kernel_rfl; kernel_rfl
    apply V.Steps.auto; kernel_rfl; kernel_rfl; kernel_rfl; kernel_rfl
    apply V.Steps.op; kernel_rfl; kernel_rfl; kernel_rfl; exact ((V.st_cmp (op := .gtr) (x := .tmp 24) (y := .const (.int .i64 12)) (k := .i64) (m := 0) (n := 12) (r := r) (by kernel_rfl) (by kernel_rfl) (by kernel_rfl) hr2))
    apply V.Steps.auto; kernel_rfl; kernel_rfl; kernel_rfl; kernel_rfl
    exact V.Steps.done (by kernel_rfl) rfl
  · rfl
  · exact V.AllKept.nil
  · kernel_rfl
  · kernel_rfl
  · kernel_rfl
  · kernel_rfl

def o5 : V.Store := [(104, valO [.dat (.int .i64 12), .dat (.int .i64 0), .dat mt, .dat .nil, .dat .nil]), (112, valO [.dat (.int .i64 12), .dat (.int .i64 0), .dat mt, .dat .nil, .dat .nil])]
def z5 (h k : D) (n : Int) : V.St := ⟨[.dat h, .dat k, .dat (.int .i8 n), .junk, .junk, .junk, .junk, .ptr 104 0 0, .ptr 112 0 0] ++ List.replicate 121 .junk, o5, 136⟩
def z6 (h k : D) (n : Int) : V.St := ⟨[.dat h, .dat k, .dat (.int .i8 n), .junk, .junk, .junk, .junk, .ptr 104 0 0, .ptr 112 0 0, .ptr 144 0 0] ++ List.replicate 120 .junk, o5 ++ [(144, xO (.dat .nil))], 160⟩
theorem dm5 (h k : D) (n : Int) : V.Run Try.prog d5 (zA3 h k n false) .normal (z5 h k n) := by
  rw [ed5]
  apply V.Run.stepsL (goodE _) regs follows (keep := [true, true, true, false, false, false, false, true, true]) (ids := [104, 112]) (nx := 136) (by rw [← ed5]; exact regsDm.2.2.2.1)
  · apply V.Steps.auto; kernel_rfl; kernel_rfl; kernel_rfl; kernel_rfl
    apply V.Steps.auto; kernel_rfl; kernel_rfl; kernel_rfl; kernel_rfl
    apply V.Steps.auto; kernel_rfl; kernel_rfl; kernel_rfl; kernel_rfl
    apply V.Steps.auto; kernel_rfl; kernel_rfl; kernel_rfl; kernel_rfl
    apply V.Steps.auto; kernel_rfl; kernel_rfl; kernel_rfl; kernel_rfl
    apply V.Steps.auto; kernel_rfl; kernel_rfl; kernel_rfl; kernel_rfl
    exact V.Steps.done (by kernel_rfl) rfl
  · rfl
  · exact V.AllKept.cons (by kernel_rfl) (by kernel_rfl) (V.AllKept.cons (by kernel_rfl) (by kernel_rfl) V.AllKept.nil)
  · kernel_rfl
  · kernel_rfl
  · kernel_rfl
  · kernel_rfl
theorem dm6 (h k : D) (n : Int) : V.Run Try.prog d6 (z5 h k n) .normal (z6 h k n) := by
  rw [ed6]
  apply V.Run.stepsL (goodE _) regs follows (keep := [true, true, true, false, false, false, false, true, true, true]) (ids := [104, 112, 144]) (nx := 160) (by rw [← ed6]; exact regsDm.2.2.2.2.1)
  · apply V.Steps.auto; kernel_rfl; kernel_rfl; kernel_rfl; kernel_rfl
    apply V.Steps.auto; kernel_rfl; kernel_rfl; kernel_rfl; kernel_rfl
    apply V.Steps.auto; kernel_rfl; kernel_rfl; kernel_rfl; kernel_rfl
    exact V.Steps.done (by kernel_rfl) rfl
  · rfl
  · exact V.AllKept.cons (by kernel_rfl) (by kernel_rfl) (V.AllKept.cons (by kernel_rfl) (by kernel_rfl) (V.AllKept.cons (by kernel_rfl) (by kernel_rfl) V.AllKept.nil))
  · kernel_rfl
  · kernel_rfl
  · kernel_rfl
  · kernel_rfl
theorem dm7 (h k : D) (n : Int) : V.Run Try.prog d7 (z6 h k n) .normal ⟨tD h k n 0 .junk .junk, o5 ++ [(144, xO (.dat .nil))], 10000⟩ := by
  rw [ed7]
  apply V.Run.stepsL (goodE _) regs follows (keep := [true, true, true, false, false, false, false, true, true, true, true]) (ids := [104, 112, 144]) (nx := 10000) (by rw [← ed7]; exact regsDm.2.2.2.2.2.1.1)
  · apply V.Steps.auto; kernel_rfl; kernel_rfl; kernel_rfl; kernel_rfl
    exact V.Steps.done (by kernel_rfl) rfl
  · rfl
  · exact V.AllKept.cons (by kernel_rfl) (by kernel_rfl) (V.AllKept.cons (by kernel_rfl) (by kernel_rfl) (V.AllKept.cons (by kernel_rfl) (by kernel_rfl) V.AllKept.nil))
  · kernel_rfl
  · kernel_rfl
  · kernel_rfl
  · kernel_rfl
end Go.Proofs.Ytjofhegodknmaaa.Say
