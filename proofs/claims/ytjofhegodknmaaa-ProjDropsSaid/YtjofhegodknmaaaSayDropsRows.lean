/- Of a struct just the fields that the other one has stay: the law's loop, what appends. Mine. -/
import Derived.Test.YtjofhegodknmaaaSayDropsDefs
set_option linter.unusedVariables false
set_option linter.unusedSimpArgs false
namespace Go.Proofs.Ytjofhegodknmaaa.Say
open Go Go.RowKit
open V (D)

theorem dr12_0 (i : Nat) (z : Int) (hz : z = (i : Int) - 3) (hi : i < 1000) (h k : D) (n : Int) {xs vs ws : List Int} {a b c : Nat}  : V.Run Try.prog d12 ⟨tD h k n i (.dat (.bool true)) .junk, [(104, valO [.dat (.int .i64 12), .dat (.int .i64 0), .dat mt, V.U.dat .nil, V.U.dat .nil]), (112, valO [.dat (.int .i64 12), .dat (.int .i64 0), .dat mt, V.U.dat .nil, V.U.dat .nil]), (144, xO (V.U.dat .nil))], 10000⟩ .normal ⟨tD h k n i (.dat (.bool true)) .junk, [(104, valO [.dat (.int .i64 12), .dat (.int .i64 0), .dat mt, V.U.dat .nil, V.U.dat .nil]), (112, valO [.dat (.int .i64 12), .dat (.int .i64 0), .dat mt, V.U.dat .nil, V.U.dat .nil]), (144, xO (V.U.own 10048 (0) 0 (0 + 1))), (10048, rowX (0) [z])], 20000⟩ := by
  rw [ed12]
  apply V.Run.stepsL (goodE _) regs follows (keep := kD) (ids := [104, 112, 144, 10048]) (nx := 20000) (by rw [← ed12]; exact regsDl.2.2.1.2.1)
  · apply V.Steps.auto; kernel_rfl; kernel_rfl; kernel_rfl; kernel_rfl
    apply V.Steps.auto; kernel_rfl; kernel_rfl; kernel_rfl; kernel_rfl
    apply V.Steps.auto; kernel_rfl; kernel_rfl; kernel_rfl; kernel_rfl
    apply V.Steps.op; kernel_rfl; kernel_rfl; kernel_rfl; exact ((V.st_ari (op := .sub) (x := .tmp 47) (y := .const (.int .i64 3)) (k := .i64) (m := (i : Int)) (n := 3) (r := z) (by kernel_rfl) (by kernel_rfl) (by kernel_rfl) (by simp only [V.ariI, V.wr_i64, Option.some.injEq]; omega)))
    apply V.Steps.auto; kernel_rfl; kernel_rfl; kernel_rfl; kernel_rfl
    apply V.Steps.auto; kernel_rfl; kernel_rfl; kernel_rfl; kernel_rfl
    apply V.Steps.auto; kernel_rfl; kernel_rfl; kernel_rfl; kernel_rfl
    apply V.Steps.auto; kernel_rfl; kernel_rfl; kernel_rfl; kernel_rfl
    apply V.Steps.auto; kernel_rfl; kernel_rfl; kernel_rfl; kernel_rfl
    exact V.Steps.done (by kernel_rfl) rfl
  · rfl
  · exact (V.AllKept.cons (by kernel_rfl) (by kernel_rfl) (V.AllKept.cons (by kernel_rfl) (by kernel_rfl) (V.AllKept.cons (by kernel_rfl) (by kernel_rfl) (V.AllKept.cons (ob := rowX (0) [z]) (by kernel_rfl) (congrArg (fun l => List.all l _) (rowX_refs _ _)) V.AllKept.nil))))
  · kernel_rfl
  · kernel_rfl
  · kernel_rfl
  · kernel_rfl
theorem dr12_1 (i : Nat) (z : Int) (hz : z = (i : Int) - 3) (hi : i < 1000) (h k : D) (n : Int) {xs vs ws : List Int} {a b c : Nat} (ha : xs.length = a + 1) (hA : a < 1000) : V.Run Try.prog d12 ⟨tD h k n i (.dat (.bool true)) .junk, [(104, valO [.dat (.int .i64 12), .dat (.int .i64 0), .dat mt, V.U.dat .nil, V.U.dat .nil]), (112, valO [.dat (.int .i64 12), .dat (.int .i64 0), .dat mt, V.U.dat .nil, V.U.dat .nil]), (144, xO (V.U.own 10048 (a) 0 (a + 1))), (10048, rowX (a) xs)], 20000⟩ .normal ⟨tD h k n i (.dat (.bool true)) .junk, [(104, valO [.dat (.int .i64 12), .dat (.int .i64 0), .dat mt, V.U.dat .nil, V.U.dat .nil]), (112, valO [.dat (.int .i64 12), .dat (.int .i64 0), .dat mt, V.U.dat .nil, V.U.dat .nil]), (144, xO (V.U.own 10048 (a + 1) 0 (a + 1 + 1))), (10048, rowX (a + 1) (xs ++ [z]))], 20000⟩ := by
  rw [ed12]
  apply V.Run.stepsL (goodE _) regs follows (keep := kD) (ids := [104, 112, 144, 10048]) (nx := 20000) (by rw [← ed12]; exact regsDl.2.2.1.2.1)
  · apply V.Steps.auto; kernel_rfl; kernel_rfl; kernel_rfl; kernel_rfl
    apply V.Steps.auto; kernel_rfl; kernel_rfl; kernel_rfl; kernel_rfl
    apply V.Steps.auto; kernel_rfl; kernel_rfl; kernel_rfl; kernel_rfl
    apply V.Steps.op; kernel_rfl; kernel_rfl; kernel_rfl; exact ((V.st_ari (op := .sub) (x := .tmp 47) (y := .const (.int .i64 3)) (k := .i64) (m := (i : Int)) (n := 3) (r := z) (by kernel_rfl) (by kernel_rfl) (by kernel_rfl) (by simp only [V.ariI, V.wr_i64, Option.some.injEq]; omega)))
    apply V.Steps.auto; kernel_rfl; kernel_rfl; kernel_rfl; kernel_rfl
    apply V.Steps.auto; kernel_rfl; kernel_rfl; kernel_rfl; kernel_rfl
    apply V.Steps.op; kernel_rfl; kernel_rfl; kernel_rfl; exact ((Eq.trans (b := V.opAppend Try.prog (V.getO [(104, valO [.dat (.int .i64 12), .dat (.int .i64 0), .dat mt, V.U.dat .nil, V.U.dat .nil]), (112, valO [.dat (.int .i64 12), .dat (.int .i64 0), .dat mt, V.U.dat .nil, V.U.dat .nil]), (144, xO (V.U.own 10048 (a) 0 (a + 1))), (10048, rowX (a) xs), (20040, ⟨33, 10, true, 0, false, (fdc z).map .dat⟩)]) 20048 29 29 (.own 10048 a 0 (a + 1)) (.own 20040 0 0 1)) (by kernel_rfl) (V.st_appendR (s := 10) (xs := (fdc z).map .dat) (m := 1) (rd := [20040]) (ob := rowX a xs) rowXT isRowXT (by kernel_rfl) Nat.one_pos rfl rfl rfl rfl (rowX_len ha a) (by omega))))
    apply V.Steps.auto; kernel_rfl; kernel_rfl; kernel_rfl; kernel_rfl
    apply V.Steps.auto; kernel_rfl; kernel_rfl; kernel_rfl; kernel_rfl
    exact V.Steps.done (by kernel_rfl) rfl
  · rfl
  · exact (V.AllKept.cons (by kernel_rfl) (by kernel_rfl) (V.AllKept.cons (by kernel_rfl) (by kernel_rfl) (V.AllKept.cons (by kernel_rfl) (by kernel_rfl) (V.AllKept.cons (ob := rowX (a + 1) (xs ++ [z])) (Eq.trans (b := some ⟨33, 10, true, a + 1, false, (rowX a xs).cells ++ (fdc z).map .dat⟩) (by kernel_rfl) (congrArg some (rowX_more a (a + 1) xs z))) (congrArg (fun l => List.all l _) (rowX_refs _ _)) V.AllKept.nil))))
  · kernel_rfl
  · kernel_rfl
  · kernel_rfl
  · kernel_rfl
theorem dr12_2 (i : Nat) (z : Int) (hz : z = (i : Int) - 3) (hi : i < 1000) (h k : D) (n : Int) {xs vs ws : List Int} {a b c : Nat}  : V.Run Try.prog d12 ⟨tD h k n i (.dat (.bool true)) .junk, [(104, valO [.dat (.int .i64 12), .dat (.int .i64 0), .dat mt, V.U.own 10580 (b) 0 (b + 1), V.U.own 10540 (b) 0 (b + 1)]), (112, valO [.dat (.int .i64 12), .dat (.int .i64 0), .dat mt, V.U.dat .nil, V.U.dat .nil]), (144, xO (V.U.dat .nil)), (10540, rowI (b) vs), (10580, rowL n (b) vs)], 20000⟩ .normal ⟨tD h k n i (.dat (.bool true)) .junk, [(104, valO [.dat (.int .i64 12), .dat (.int .i64 0), .dat mt, V.U.own 10580 (b) 0 (b + 1), V.U.own 10540 (b) 0 (b + 1)]), (112, valO [.dat (.int .i64 12), .dat (.int .i64 0), .dat mt, V.U.dat .nil, V.U.dat .nil]), (144, xO (V.U.own 20048 (0) 0 (0 + 1))), (20048, rowX (0) [z]), (10540, rowI (b) vs), (10580, rowL n (b) vs)], 30000⟩ := by
  rw [ed12]
  apply V.Run.stepsL (goodE _) regs follows (keep := kD) (ids := [104, 112, 144, 20048, 10540, 10580]) (nx := 30000) (by rw [← ed12]; exact regsDl.2.2.1.2.1)
  · apply V.Steps.auto; kernel_rfl; kernel_rfl; kernel_rfl; kernel_rfl
    apply V.Steps.auto; kernel_rfl; kernel_rfl; kernel_rfl; kernel_rfl
    apply V.Steps.auto; kernel_rfl; kernel_rfl; kernel_rfl; kernel_rfl
    apply V.Steps.op; kernel_rfl; kernel_rfl; kernel_rfl; exact ((V.st_ari (op := .sub) (x := .tmp 47) (y := .const (.int .i64 3)) (k := .i64) (m := (i : Int)) (n := 3) (r := z) (by kernel_rfl) (by kernel_rfl) (by kernel_rfl) (by simp only [V.ariI, V.wr_i64, Option.some.injEq]; omega)))
    apply V.Steps.auto; kernel_rfl; kernel_rfl; kernel_rfl; kernel_rfl
    apply V.Steps.auto; kernel_rfl; kernel_rfl; kernel_rfl; kernel_rfl
    apply V.Steps.auto; kernel_rfl; kernel_rfl; kernel_rfl; kernel_rfl
    apply V.Steps.auto; kernel_rfl; kernel_rfl; kernel_rfl; kernel_rfl
    apply V.Steps.auto; kernel_rfl; kernel_rfl; kernel_rfl; kernel_rfl
    exact V.Steps.done (by kernel_rfl) rfl
  · rfl
  · exact (V.AllKept.cons (by kernel_rfl) (by kernel_rfl) (V.AllKept.cons (by kernel_rfl) (by kernel_rfl) (V.AllKept.cons (by kernel_rfl) (by kernel_rfl) (V.AllKept.cons (ob := rowX (0) [z]) (by kernel_rfl) (congrArg (fun l => List.all l _) (rowX_refs _ _)) (V.AllKept.cons (ob := rowI (b) vs) (by kernel_rfl) (congrArg (fun l => List.all l _) (rowI_refs _ _)) (V.AllKept.cons (ob := rowL n (b) vs) (by kernel_rfl) (congrArg (fun l => List.all l _) (rowL_refs _ _ _)) V.AllKept.nil))))))
  · kernel_rfl
  · kernel_rfl
  · kernel_rfl
  · kernel_rfl
theorem dr12_3 (i : Nat) (z : Int) (hz : z = (i : Int) - 3) (hi : i < 1000) (h k : D) (n : Int) {xs vs ws : List Int} {a b c : Nat} (ha : xs.length = a + 1) (hA : a < 1000) : V.Run Try.prog d12 ⟨tD h k n i (.dat (.bool true)) .junk, [(104, valO [.dat (.int .i64 12), .dat (.int .i64 0), .dat mt, V.U.own 20580 (b) 0 (b + 1), V.U.own 20540 (b) 0 (b + 1)]), (112, valO [.dat (.int .i64 12), .dat (.int .i64 0), .dat mt, V.U.dat .nil, V.U.dat .nil]), (144, xO (V.U.own 10048 (a) 0 (a + 1))), (10048, rowX (a) xs), (20540, rowI (b) vs), (20580, rowL n (b) vs)], 30000⟩ .normal ⟨tD h k n i (.dat (.bool true)) .junk, [(104, valO [.dat (.int .i64 12), .dat (.int .i64 0), .dat mt, V.U.own 20580 (b) 0 (b + 1), V.U.own 20540 (b) 0 (b + 1)]), (112, valO [.dat (.int .i64 12), .dat (.int .i64 0), .dat mt, V.U.dat .nil, V.U.dat .nil]), (144, xO (V.U.own 10048 (a + 1) 0 (a + 1 + 1))), (10048, rowX (a + 1) (xs ++ [z])), (20540, rowI (b) vs), (20580, rowL n (b) vs)], 30000⟩ := by
  rw [ed12]
  apply V.Run.stepsL (goodE _) regs follows (keep := kD) (ids := [104, 112, 144, 10048, 20540, 20580]) (nx := 30000) (by rw [← ed12]; exact regsDl.2.2.1.2.1)
  · apply V.Steps.auto; kernel_rfl; kernel_rfl; kernel_rfl; kernel_rfl
    apply V.Steps.auto; kernel_rfl; kernel_rfl; kernel_rfl; kernel_rfl
    apply V.Steps.auto; kernel_rfl; kernel_rfl; kernel_rfl; kernel_rfl
    apply V.Steps.op; kernel_rfl; kernel_rfl; kernel_rfl; exact ((V.st_ari (op := .sub) (x := .tmp 47) (y := .const (.int .i64 3)) (k := .i64) (m := (i : Int)) (n := 3) (r := z) (by kernel_rfl) (by kernel_rfl) (by kernel_rfl) (by simp only [V.ariI, V.wr_i64, Option.some.injEq]; omega)))
    apply V.Steps.auto; kernel_rfl; kernel_rfl; kernel_rfl; kernel_rfl
    apply V.Steps.auto; kernel_rfl; kernel_rfl; kernel_rfl; kernel_rfl
    apply V.Steps.op; kernel_rfl; kernel_rfl; kernel_rfl; exact ((Eq.trans (b := V.opAppend Try.prog (V.getO [(104, valO [.dat (.int .i64 12), .dat (.int .i64 0), .dat mt, V.U.own 20580 (b) 0 (b + 1), V.U.own 20540 (b) 0 (b + 1)]), (112, valO [.dat (.int .i64 12), .dat (.int .i64 0), .dat mt, V.U.dat .nil, V.U.dat .nil]), (144, xO (V.U.own 10048 (a) 0 (a + 1))), (10048, rowX (a) xs), (20540, rowI (b) vs), (20580, rowL n (b) vs), (30040, ⟨33, 10, true, 0, false, (fdc z).map .dat⟩)]) 30048 29 29 (.own 10048 a 0 (a + 1)) (.own 30040 0 0 1)) (by kernel_rfl) (V.st_appendR (s := 10) (xs := (fdc z).map .dat) (m := 1) (rd := [30040]) (ob := rowX a xs) rowXT isRowXT (by kernel_rfl) Nat.one_pos rfl rfl rfl rfl (rowX_len ha a) (by omega))))
    apply V.Steps.auto; kernel_rfl; kernel_rfl; kernel_rfl; kernel_rfl
    apply V.Steps.auto; kernel_rfl; kernel_rfl; kernel_rfl; kernel_rfl
    exact V.Steps.done (by kernel_rfl) rfl
  · rfl
  · exact (V.AllKept.cons (by kernel_rfl) (by kernel_rfl) (V.AllKept.cons (by kernel_rfl) (by kernel_rfl) (V.AllKept.cons (by kernel_rfl) (by kernel_rfl) (V.AllKept.cons (ob := rowX (a + 1) (xs ++ [z])) (Eq.trans (b := some ⟨33, 10, true, a + 1, false, (rowX a xs).cells ++ (fdc z).map .dat⟩) (by kernel_rfl) (congrArg some (rowX_more a (a + 1) xs z))) (congrArg (fun l => List.all l _) (rowX_refs _ _)) (V.AllKept.cons (ob := rowI (b) vs) (by kernel_rfl) (congrArg (fun l => List.all l _) (rowI_refs _ _)) (V.AllKept.cons (ob := rowL n (b) vs) (by kernel_rfl) (congrArg (fun l => List.all l _) (rowL_refs _ _ _)) V.AllKept.nil))))))
  · kernel_rfl
  · kernel_rfl
  · kernel_rfl
  · kernel_rfl
theorem dr12_4 (i : Nat) (z : Int) (hz : z = (i : Int) - 3) (hi : i < 1000) (h k : D) (n : Int) {xs vs ws : List Int} {a b c : Nat} (ha : xs.length = a + 1) (hA : a < 1000) : V.Run Try.prog d12 ⟨tD h k n i (.dat (.bool true)) .junk, [(104, valO [.dat (.int .i64 12), .dat (.int .i64 0), .dat mt, V.U.own 10580 (b) 0 (b + 1), V.U.own 10540 (b) 0 (b + 1)]), (112, valO [.dat (.int .i64 12), .dat (.int .i64 0), .dat mt, V.U.dat .nil, V.U.dat .nil]), (144, xO (V.U.own 20048 (a) 0 (a + 1))), (20048, rowX (a) xs), (10540, rowI (b) vs), (10580, rowL n (b) vs)], 30000⟩ .normal ⟨tD h k n i (.dat (.bool true)) .junk, [(104, valO [.dat (.int .i64 12), .dat (.int .i64 0), .dat mt, V.U.own 10580 (b) 0 (b + 1), V.U.own 10540 (b) 0 (b + 1)]), (112, valO [.dat (.int .i64 12), .dat (.int .i64 0), .dat mt, V.U.dat .nil, V.U.dat .nil]), (144, xO (V.U.own 20048 (a + 1) 0 (a + 1 + 1))), (20048, rowX (a + 1) (xs ++ [z])), (10540, rowI (b) vs), (10580, rowL n (b) vs)], 30000⟩ := by
  rw [ed12]
  apply V.Run.stepsL (goodE _) regs follows (keep := kD) (ids := [104, 112, 144, 20048, 10540, 10580]) (nx := 30000) (by rw [← ed12]; exact regsDl.2.2.1.2.1)
  · apply V.Steps.auto; kernel_rfl; kernel_rfl; kernel_rfl; kernel_rfl
    apply V.Steps.auto; kernel_rfl; kernel_rfl; kernel_rfl; kernel_rfl
    apply V.Steps.auto; kernel_rfl; kernel_rfl; kernel_rfl; kernel_rfl
    apply V.Steps.op; kernel_rfl; kernel_rfl; kernel_rfl; exact ((V.st_ari (op := .sub) (x := .tmp 47) (y := .const (.int .i64 3)) (k := .i64) (m := (i : Int)) (n := 3) (r := z) (by kernel_rfl) (by kernel_rfl) (by kernel_rfl) (by simp only [V.ariI, V.wr_i64, Option.some.injEq]; omega)))
    apply V.Steps.auto; kernel_rfl; kernel_rfl; kernel_rfl; kernel_rfl
    apply V.Steps.auto; kernel_rfl; kernel_rfl; kernel_rfl; kernel_rfl
    apply V.Steps.op; kernel_rfl; kernel_rfl; kernel_rfl; exact ((Eq.trans (b := V.opAppend Try.prog (V.getO [(104, valO [.dat (.int .i64 12), .dat (.int .i64 0), .dat mt, V.U.own 10580 (b) 0 (b + 1), V.U.own 10540 (b) 0 (b + 1)]), (112, valO [.dat (.int .i64 12), .dat (.int .i64 0), .dat mt, V.U.dat .nil, V.U.dat .nil]), (144, xO (V.U.own 20048 (a) 0 (a + 1))), (20048, rowX (a) xs), (10540, rowI (b) vs), (10580, rowL n (b) vs), (30040, ⟨33, 10, true, 0, false, (fdc z).map .dat⟩)]) 30048 29 29 (.own 20048 a 0 (a + 1)) (.own 30040 0 0 1)) (by kernel_rfl) (V.st_appendR (s := 10) (xs := (fdc z).map .dat) (m := 1) (rd := [30040]) (ob := rowX a xs) rowXT isRowXT (by kernel_rfl) Nat.one_pos rfl rfl rfl rfl (rowX_len ha a) (by omega))))
    apply V.Steps.auto; kernel_rfl; kernel_rfl; kernel_rfl; kernel_rfl
    apply V.Steps.auto; kernel_rfl; kernel_rfl; kernel_rfl; kernel_rfl
    exact V.Steps.done (by kernel_rfl) rfl
  · rfl
  · exact (V.AllKept.cons (by kernel_rfl) (by kernel_rfl) (V.AllKept.cons (by kernel_rfl) (by kernel_rfl) (V.AllKept.cons (by kernel_rfl) (by kernel_rfl) (V.AllKept.cons (ob := rowX (a + 1) (xs ++ [z])) (Eq.trans (b := some ⟨33, 10, true, a + 1, false, (rowX a xs).cells ++ (fdc z).map .dat⟩) (by kernel_rfl) (congrArg some (rowX_more a (a + 1) xs z))) (congrArg (fun l => List.all l _) (rowX_refs _ _)) (V.AllKept.cons (ob := rowI (b) vs) (by kernel_rfl) (congrArg (fun l => List.all l _) (rowI_refs _ _)) (V.AllKept.cons (ob := rowL n (b) vs) (by kernel_rfl) (congrArg (fun l => List.all l _) (rowL_refs _ _ _)) V.AllKept.nil))))))
  · kernel_rfl
  · kernel_rfl
  · kernel_rfl
  · kernel_rfl
theorem dr12_5 (i : Nat) (z : Int) (hz : z = (i : Int) - 3) (hi : i < 1000) (h k : D) (n : Int) {xs vs ws : List Int} {a b c : Nat} (ha : xs.length = a + 1) (hA : a < 1000) : V.Run Try.prog d12 ⟨tD h k n i (.dat (.bool true)) .junk, [(104, valO [.dat (.int .i64 12), .dat (.int .i64 0), .dat mt, V.U.own 20580 (b) 0 (b + 1), V.U.own 20540 (b) 0 (b + 1)]), (112, valO [.dat (.int .i64 12), .dat (.int .i64 0), .dat mt, V.U.own 31080 (c) 0 (c + 1), V.U.own 31040 (c) 0 (c + 1)]), (144, xO (V.U.own 10048 (a) 0 (a + 1))), (10048, rowX (a) xs), (20540, rowI (b) vs), (20580, rowL n (b) vs), (31040, rowI (c) ws), (31080, rowL n (c) ws)], 40000⟩ .normal ⟨tD h k n i (.dat (.bool true)) .junk, [(104, valO [.dat (.int .i64 12), .dat (.int .i64 0), .dat mt, V.U.own 20580 (b) 0 (b + 1), V.U.own 20540 (b) 0 (b + 1)]), (112, valO [.dat (.int .i64 12), .dat (.int .i64 0), .dat mt, V.U.own 31080 (c) 0 (c + 1), V.U.own 31040 (c) 0 (c + 1)]), (144, xO (V.U.own 10048 (a + 1) 0 (a + 1 + 1))), (10048, rowX (a + 1) (xs ++ [z])), (20540, rowI (b) vs), (20580, rowL n (b) vs), (31040, rowI (c) ws), (31080, rowL n (c) ws)], 40000⟩ := by
  rw [ed12]
  apply V.Run.stepsL (goodE _) regs follows (keep := kD) (ids := [104, 112, 144, 10048, 20540, 20580, 31040, 31080]) (nx := 40000) (by rw [← ed12]; exact regsDl.2.2.1.2.1)
  · apply V.Steps.auto; kernel_rfl; kernel_rfl; kernel_rfl; kernel_rfl
    apply V.Steps.auto; kernel_rfl; kernel_rfl; kernel_rfl; kernel_rfl
    apply V.Steps.auto; kernel_rfl; kernel_rfl; kernel_rfl; kernel_rfl
    apply V.Steps.op; kernel_rfl; kernel_rfl; kernel_rfl; exact ((V.st_ari (op := .sub) (x := .tmp 47) (y := .const (.int .i64 3)) (k := .i64) (m := (i : Int)) (n := 3) (r := z) (by kernel_rfl) (by kernel_rfl) (by kernel_rfl) (by simp only [V.ariI, V.wr_i64, Option.some.injEq]; omega)))
    apply V.Steps.auto; kernel_rfl; kernel_rfl; kernel_rfl; kernel_rfl
    apply V.Steps.auto; kernel_rfl; kernel_rfl; kernel_rfl; kernel_rfl
    apply V.Steps.op; kernel_rfl; kernel_rfl; kernel_rfl; exact ((Eq.trans (b := V.opAppend Try.prog (V.getO [(104, valO [.dat (.int .i64 12), .dat (.int .i64 0), .dat mt, V.U.own 20580 (b) 0 (b + 1), V.U.own 20540 (b) 0 (b + 1)]), (112, valO [.dat (.int .i64 12), .dat (.int .i64 0), .dat mt, V.U.own 31080 (c) 0 (c + 1), V.U.own 31040 (c) 0 (c + 1)]), (144, xO (V.U.own 10048 (a) 0 (a + 1))), (10048, rowX (a) xs), (20540, rowI (b) vs), (20580, rowL n (b) vs), (31040, rowI (c) ws), (31080, rowL n (c) ws), (40040, ⟨33, 10, true, 0, false, (fdc z).map .dat⟩)]) 40048 29 29 (.own 10048 a 0 (a + 1)) (.own 40040 0 0 1)) (by kernel_rfl) (V.st_appendR (s := 10) (xs := (fdc z).map .dat) (m := 1) (rd := [40040]) (ob := rowX a xs) rowXT isRowXT (by kernel_rfl) Nat.one_pos rfl rfl rfl rfl (rowX_len ha a) (by omega))))
    apply V.Steps.auto; kernel_rfl; kernel_rfl; kernel_rfl; kernel_rfl
    apply V.Steps.auto; kernel_rfl; kernel_rfl; kernel_rfl; kernel_rfl
    exact V.Steps.done (by kernel_rfl) rfl
  · rfl
  · exact (V.AllKept.cons (by kernel_rfl) (by kernel_rfl) (V.AllKept.cons (by kernel_rfl) (by kernel_rfl) (V.AllKept.cons (by kernel_rfl) (by kernel_rfl) (V.AllKept.cons (ob := rowX (a + 1) (xs ++ [z])) (Eq.trans (b := some ⟨33, 10, true, a + 1, false, (rowX a xs).cells ++ (fdc z).map .dat⟩) (by kernel_rfl) (congrArg some (rowX_more a (a + 1) xs z))) (congrArg (fun l => List.all l _) (rowX_refs _ _)) (V.AllKept.cons (ob := rowI (b) vs) (by kernel_rfl) (congrArg (fun l => List.all l _) (rowI_refs _ _)) (V.AllKept.cons (ob := rowL n (b) vs) (by kernel_rfl) (congrArg (fun l => List.all l _) (rowL_refs _ _ _)) (V.AllKept.cons (ob := rowI (c) ws) (by kernel_rfl) (congrArg (fun l => List.all l _) (rowI_refs _ _)) (V.AllKept.cons (ob := rowL n (c) ws) (by kernel_rfl) (congrArg (fun l => List.all l _) (rowL_refs _ _ _)) V.AllKept.nil))))))))
  · kernel_rfl
  · kernel_rfl
  · kernel_rfl
  · kernel_rfl
theorem dr12_6 (i : Nat) (z : Int) (hz : z = (i : Int) - 3) (hi : i < 1000) (h k : D) (n : Int) {xs vs ws : List Int} {a b c : Nat} (ha : xs.length = a + 1) (hA : a < 1000) : V.Run Try.prog d12 ⟨tD h k n i (.dat (.bool true)) .junk, [(104, valO [.dat (.int .i64 12), .dat (.int .i64 0), .dat mt, V.U.own 10580 (b) 0 (b + 1), V.U.own 10540 (b) 0 (b + 1)]), (112, valO [.dat (.int .i64 12), .dat (.int .i64 0), .dat mt, V.U.own 31080 (c) 0 (c + 1), V.U.own 31040 (c) 0 (c + 1)]), (144, xO (V.U.own 20048 (a) 0 (a + 1))), (20048, rowX (a) xs), (10540, rowI (b) vs), (10580, rowL n (b) vs), (31040, rowI (c) ws), (31080, rowL n (c) ws)], 40000⟩ .normal ⟨tD h k n i (.dat (.bool true)) .junk, [(104, valO [.dat (.int .i64 12), .dat (.int .i64 0), .dat mt, V.U.own 10580 (b) 0 (b + 1), V.U.own 10540 (b) 0 (b + 1)]), (112, valO [.dat (.int .i64 12), .dat (.int .i64 0), .dat mt, V.U.own 31080 (c) 0 (c + 1), V.U.own 31040 (c) 0 (c + 1)]), (144, xO (V.U.own 20048 (a + 1) 0 (a + 1 + 1))), (20048, rowX (a + 1) (xs ++ [z])), (10540, rowI (b) vs), (10580, rowL n (b) vs), (31040, rowI (c) ws), (31080, rowL n (c) ws)], 40000⟩ := by
  rw [ed12]
  apply V.Run.stepsL (goodE _) regs follows (keep := kD) (ids := [104, 112, 144, 20048, 10540, 10580, 31040, 31080]) (nx := 40000) (by rw [← ed12]; exact regsDl.2.2.1.2.1)
  · apply V.Steps.auto; kernel_rfl; kernel_rfl; kernel_rfl; kernel_rfl
    apply V.Steps.auto; kernel_rfl; kernel_rfl; kernel_rfl; kernel_rfl
    apply V.Steps.auto; kernel_rfl; kernel_rfl; kernel_rfl; kernel_rfl
    apply V.Steps.op; kernel_rfl; kernel_rfl; kernel_rfl; exact ((V.st_ari (op := .sub) (x := .tmp 47) (y := .const (.int .i64 3)) (k := .i64) (m := (i : Int)) (n := 3) (r := z) (by kernel_rfl) (by kernel_rfl) (by kernel_rfl) (by simp only [V.ariI, V.wr_i64, Option.some.injEq]; omega)))
    apply V.Steps.auto; kernel_rfl; kernel_rfl; kernel_rfl; kernel_rfl
    apply V.Steps.auto; kernel_rfl; kernel_rfl; kernel_rfl; kernel_rfl
    apply V.Steps.op; kernel_rfl; kernel_rfl; kernel_rfl; exact ((Eq.trans (b := V.opAppend Try.prog (V.getO [(104, valO [.dat (.int .i64 12), .dat (.int .i64 0), .dat mt, V.U.own 10580 (b) 0 (b + 1), V.U.own 10540 (b) 0 (b + 1)]), (112, valO [.dat (.int .i64 12), .dat (.int .i64 0), .dat mt, V.U.own 31080 (c) 0 (c + 1), V.U.own 31040 (c) 0 (c + 1)]), (144, xO (V.U.own 20048 (a) 0 (a + 1))), (20048, rowX (a) xs), (10540, rowI (b) vs), (10580, rowL n (b) vs), (31040, rowI (c) ws), (31080, rowL n (c) ws), (40040, ⟨33, 10, true, 0, false, (fdc z).map .dat⟩)]) 40048 29 29 (.own 20048 a 0 (a + 1)) (.own 40040 0 0 1)) (by kernel_rfl) (V.st_appendR (s := 10) (xs := (fdc z).map .dat) (m := 1) (rd := [40040]) (ob := rowX a xs) rowXT isRowXT (by kernel_rfl) Nat.one_pos rfl rfl rfl rfl (rowX_len ha a) (by omega))))
    apply V.Steps.auto; kernel_rfl; kernel_rfl; kernel_rfl; kernel_rfl
    apply V.Steps.auto; kernel_rfl; kernel_rfl; kernel_rfl; kernel_rfl
    exact V.Steps.done (by kernel_rfl) rfl
  · rfl
  · exact (V.AllKept.cons (by kernel_rfl) (by kernel_rfl) (V.AllKept.cons (by kernel_rfl) (by kernel_rfl) (V.AllKept.cons (by kernel_rfl) (by kernel_rfl) (V.AllKept.cons (ob := rowX (a + 1) (xs ++ [z])) (Eq.trans (b := some ⟨33, 10, true, a + 1, false, (rowX a xs).cells ++ (fdc z).map .dat⟩) (by kernel_rfl) (congrArg some (rowX_more a (a + 1) xs z))) (congrArg (fun l => List.all l _) (rowX_refs _ _)) (V.AllKept.cons (ob := rowI (b) vs) (by kernel_rfl) (congrArg (fun l => List.all l _) (rowI_refs _ _)) (V.AllKept.cons (ob := rowL n (b) vs) (by kernel_rfl) (congrArg (fun l => List.all l _) (rowL_refs _ _ _)) (V.AllKept.cons (ob := rowI (c) ws) (by kernel_rfl) (congrArg (fun l => List.all l _) (rowI_refs _ _)) (V.AllKept.cons (ob := rowL n (c) ws) (by kernel_rfl) (congrArg (fun l => List.all l _) (rowL_refs _ _ _)) V.AllKept.nil))))))))
  · kernel_rfl
  · kernel_rfl
  · kernel_rfl
  · kernel_rfl
theorem dr15_0 (i : Nat) (z : Int) (hz : z = (i : Int) - 3) (hi : i < 1000) (h k : D) (n : Int) (bo : Bool) {xs vs ws : List Int} {a b c : Nat}  : V.Run Try.prog d15 ⟨tD h k n i (.dat (.bool bo)) (.ptr 10024 0 0), [(104, valO [.dat (.int .i64 12), .dat (.int .i64 0), .dat mt, V.U.dat .nil, V.U.dat .nil]), (112, valO [.dat (.int .i64 12), .dat (.int .i64 0), .dat mt, V.U.dat .nil, V.U.dat .nil]), (144, xO (V.U.dat .nil)), (10024, valO [.dat (.int .i64 3), .dat (nI n), .dat mt, .dat .nil, .dat .nil])], 10500⟩ .normal ⟨tD h k n i (.dat (.bool bo)) (.ptr 10024 0 0), [(104, valO [.dat (.int .i64 12), .dat (.int .i64 0), .dat mt, V.U.own 10580 (0) 0 (0 + 1), V.U.own 10540 (0) 0 (0 + 1)]), (112, valO [.dat (.int .i64 12), .dat (.int .i64 0), .dat mt, V.U.dat .nil, V.U.dat .nil]), (144, xO (V.U.dat .nil)), (10540, rowI (0) [z]), (10580, rowL n (0) [z]), (10024, valO [.dat (.int .i64 3), .dat (nI n), .dat mt, .dat .nil, .dat .nil])], 21000⟩ := by
  rw [ed15]
  apply V.Run.stepsTL (goodE _) regs follows (keep := kD) (ids := [104, 112, 144, 10540, 10580, 10024]) (nx := 21000) (by rw [← ed15]; exact regsDl.2.2.2.1.2.1.2.1)
  · apply V.StepsT.auto; kernel_rfl; kernel_rfl; kernel_rfl; kernel_rfl
    apply V.StepsT.auto; kernel_rfl; kernel_rfl; kernel_rfl; kernel_rfl
    apply V.StepsT.auto; kernel_rfl; kernel_rfl; kernel_rfl; kernel_rfl
    apply V.StepsT.op; kernel_rfl; kernel_rfl; kernel_rfl; exact ((V.st_ari (op := .sub) (x := .tmp 68) (y := .const (.int .i64 3)) (k := .i64) (m := (i : Int)) (n := 3) (r := z) (by kernel_rfl) (by kernel_rfl) (by kernel_rfl) (by simp only [V.ariI, V.wr_i64, Option.some.injEq]; omega)))
    apply V.StepsT.auto; kernel_rfl; kernel_rfl; kernel_rfl; kernel_rfl
    apply V.StepsT.auto; kernel_rfl; kernel_rfl; kernel_rfl; kernel_rfl
    apply V.StepsT.auto; kernel_rfl; kernel_rfl; kernel_rfl; kernel_rfl
    apply V.StepsT.auto; kernel_rfl; kernel_rfl; kernel_rfl; kernel_rfl
    apply V.StepsT.auto; kernel_rfl; kernel_rfl; kernel_rfl; kernel_rfl
    apply V.StepsT.auto; kernel_rfl; kernel_rfl; kernel_rfl; kernel_rfl
    apply V.StepsT.auto; kernel_rfl; kernel_rfl; kernel_rfl; kernel_rfl
    apply V.StepsT.auto; kernel_rfl; kernel_rfl; kernel_rfl; kernel_rfl
    apply V.StepsT.auto; kernel_rfl; kernel_rfl; kernel_rfl; kernel_rfl
    apply V.StepsT.auto; kernel_rfl; kernel_rfl; kernel_rfl; kernel_rfl
    apply V.StepsT.auto; kernel_rfl; kernel_rfl; kernel_rfl; kernel_rfl
    exact V.StepsT.done (by kernel_rfl) rfl
  · kernel_rfl
  · rfl
  · exact (V.AllKept.cons (by kernel_rfl) (by kernel_rfl) (V.AllKept.cons (by kernel_rfl) (by kernel_rfl) (V.AllKept.cons (by kernel_rfl) (by kernel_rfl) (V.AllKept.cons (ob := rowI (0) [z]) (by kernel_rfl) (congrArg (fun l => List.all l _) (rowI_refs _ _)) (V.AllKept.cons (ob := rowL n (0) [z]) (by kernel_rfl) (congrArg (fun l => List.all l _) (rowL_refs _ _ _)) (V.AllKept.cons (by kernel_rfl) (by kernel_rfl) V.AllKept.nil))))))
  · kernel_rfl
  · kernel_rfl
  · kernel_rfl
  · kernel_rfl
theorem dr15_1 (i : Nat) (z : Int) (hz : z = (i : Int) - 3) (hi : i < 1000) (h k : D) (n : Int) (bo : Bool) {xs vs ws : List Int} {a b c : Nat}  : V.Run Try.prog d15 ⟨tD h k n i (.dat (.bool bo)) (.ptr 20024 0 0), [(104, valO [.dat (.int .i64 12), .dat (.int .i64 0), .dat mt, V.U.dat .nil, V.U.dat .nil]), (112, valO [.dat (.int .i64 12), .dat (.int .i64 0), .dat mt, V.U.dat .nil, V.U.dat .nil]), (144, xO (V.U.own 10048 (a) 0 (a + 1))), (10048, rowX (a) xs), (20024, valO [.dat (.int .i64 3), .dat (nI n), .dat mt, .dat .nil, .dat .nil])], 20500⟩ .normal ⟨tD h k n i (.dat (.bool bo)) (.ptr 20024 0 0), [(104, valO [.dat (.int .i64 12), .dat (.int .i64 0), .dat mt, V.U.own 20580 (0) 0 (0 + 1), V.U.own 20540 (0) 0 (0 + 1)]), (112, valO [.dat (.int .i64 12), .dat (.int .i64 0), .dat mt, V.U.dat .nil, V.U.dat .nil]), (144, xO (V.U.own 10048 (a) 0 (a + 1))), (10048, rowX (a) xs), (20540, rowI (0) [z]), (20580, rowL n (0) [z]), (20024, valO [.dat (.int .i64 3), .dat (nI n), .dat mt, .dat .nil, .dat .nil])], 31000⟩ := by
  rw [ed15]
  apply V.Run.stepsTL (goodE _) regs follows (keep := kD) (ids := [104, 112, 144, 10048, 20540, 20580, 20024]) (nx := 31000) (by rw [← ed15]; exact regsDl.2.2.2.1.2.1.2.1)
  · apply V.StepsT.auto; kernel_rfl; kernel_rfl; kernel_rfl; kernel_rfl
    apply V.StepsT.auto; kernel_rfl; kernel_rfl; kernel_rfl; kernel_rfl
    apply V.StepsT.auto; kernel_rfl; kernel_rfl; kernel_rfl; kernel_rfl
    apply V.StepsT.op; kernel_rfl; kernel_rfl; kernel_rfl; exact ((V.st_ari (op := .sub) (x := .tmp 68) (y := .const (.int .i64 3)) (k := .i64) (m := (i : Int)) (n := 3) (r := z) (by kernel_rfl) (by kernel_rfl) (by kernel_rfl) (by simp only [V.ariI, V.wr_i64, Option.some.injEq]; omega)))
    apply V.StepsT.auto; kernel_rfl; kernel_rfl; kernel_rfl; kernel_rfl
    apply V.StepsT.auto; kernel_rfl; kernel_rfl; kernel_rfl; kernel_rfl
    apply V.StepsT.auto; kernel_rfl; kernel_rfl; kernel_rfl; kernel_rfl
    apply V.StepsT.auto; kernel_rfl; kernel_rfl; kernel_rfl; kernel_rfl
    apply V.StepsT.auto; kernel_rfl; kernel_rfl; kernel_rfl; kernel_rfl
    apply V.StepsT.auto; kernel_rfl; kernel_rfl; kernel_rfl; kernel_rfl
    apply V.StepsT.auto; kernel_rfl; kernel_rfl; kernel_rfl; kernel_rfl
    apply V.StepsT.auto; kernel_rfl; kernel_rfl; kernel_rfl; kernel_rfl
    apply V.StepsT.auto; kernel_rfl; kernel_rfl; kernel_rfl; kernel_rfl
    apply V.StepsT.auto; kernel_rfl; kernel_rfl; kernel_rfl; kernel_rfl
    apply V.StepsT.auto; kernel_rfl; kernel_rfl; kernel_rfl; kernel_rfl
    exact V.StepsT.done (by kernel_rfl) rfl
  · kernel_rfl
  · rfl
  · exact (V.AllKept.cons (by kernel_rfl) (by kernel_rfl) (V.AllKept.cons (by kernel_rfl) (by kernel_rfl) (V.AllKept.cons (by kernel_rfl) (by kernel_rfl) (V.AllKept.cons (ob := rowX (a) xs) (by kernel_rfl) (congrArg (fun l => List.all l _) (rowX_refs _ _)) (V.AllKept.cons (ob := rowI (0) [z]) (by kernel_rfl) (congrArg (fun l => List.all l _) (rowI_refs _ _)) (V.AllKept.cons (ob := rowL n (0) [z]) (by kernel_rfl) (congrArg (fun l => List.all l _) (rowL_refs _ _ _)) (V.AllKept.cons (by kernel_rfl) (by kernel_rfl) V.AllKept.nil)))))))
  · kernel_rfl
  · kernel_rfl
  · kernel_rfl
  · kernel_rfl
theorem dr15_2 (i : Nat) (z : Int) (hz : z = (i : Int) - 3) (hi : i < 1000) (h k : D) (n : Int) (bo : Bool) {xs vs ws : List Int} {a b c : Nat} (hb : vs.length = b + 1) (hB : b < 1000) : V.Run Try.prog d15 ⟨tD h k n i (.dat (.bool bo)) (.ptr 20024 0 0), [(104, valO [.dat (.int .i64 12), .dat (.int .i64 0), .dat mt, V.U.own 10580 (b) 0 (b + 1), V.U.own 10540 (b) 0 (b + 1)]), (112, valO [.dat (.int .i64 12), .dat (.int .i64 0), .dat mt, V.U.dat .nil, V.U.dat .nil]), (144, xO (V.U.dat .nil)), (10540, rowI (b) vs), (10580, rowL n (b) vs), (20024, valO [.dat (.int .i64 3), .dat (nI n), .dat mt, .dat .nil, .dat .nil])], 20500⟩ .normal ⟨tD h k n i (.dat (.bool bo)) (.ptr 20024 0 0), [(104, valO [.dat (.int .i64 12), .dat (.int .i64 0), .dat mt, V.U.own 10580 (b + 1) 0 (b + 1 + 1), V.U.own 10540 (b + 1) 0 (b + 1 + 1)]), (112, valO [.dat (.int .i64 12), .dat (.int .i64 0), .dat mt, V.U.dat .nil, V.U.dat .nil]), (144, xO (V.U.dat .nil)), (10540, rowI (b + 1) (vs ++ [z])), (10580, rowL n (b + 1) (vs ++ [z])), (20024, valO [.dat (.int .i64 3), .dat (nI n), .dat mt, .dat .nil, .dat .nil])], 21000⟩ := by
  rw [ed15]
  apply V.Run.stepsTL (goodE _) regs follows (keep := kD) (ids := [104, 112, 144, 10540, 10580, 20024]) (nx := 21000) (by rw [← ed15]; exact regsDl.2.2.2.1.2.1.2.1)
  · apply V.StepsT.auto; kernel_rfl; kernel_rfl; kernel_rfl; kernel_rfl
    apply V.StepsT.auto; kernel_rfl; kernel_rfl; kernel_rfl; kernel_rfl
    apply V.StepsT.auto; kernel_rfl; kernel_rfl; kernel_rfl; kernel_rfl
    apply V.StepsT.op; kernel_rfl; kernel_rfl; kernel_rfl; exact ((V.st_ari (op := .sub) (x := .tmp 68) (y := .const (.int .i64 3)) (k := .i64) (m := (i : Int)) (n := 3) (r := z) (by kernel_rfl) (by kernel_rfl) (by kernel_rfl) (by simp only [V.ariI, V.wr_i64, Option.some.injEq]; omega)))
    apply V.StepsT.auto; kernel_rfl; kernel_rfl; kernel_rfl; kernel_rfl
    apply V.StepsT.op; kernel_rfl; kernel_rfl; kernel_rfl; exact ((Eq.trans (b := V.opAppend Try.prog (V.getO [(104, valO [.dat (.int .i64 12), .dat (.int .i64 0), .dat mt, V.U.own 10580 (b) 0 (b + 1), V.U.own 10540 (b) 0 (b + 1)]), (112, valO [.dat (.int .i64 12), .dat (.int .i64 0), .dat mt, V.U.dat .nil, V.U.dat .nil]), (144, xO (V.U.dat .nil)), (10540, rowI (b) vs), (10580, rowL n (b) vs), (20024, valO [.dat (.int .i64 3), .dat (nI n), .dat mt, .dat .nil, .dat .nil]), (20532, ⟨3, 1, false, 0, false, [nI z].map V.U.dat⟩)]) 20540 26 26 (.own 10540 b 0 (b + 1)) (.own 20532 0 0 1)) (by kernel_rfl) (V.st_appendR (s := 1) (xs := [nI z].map V.U.dat) (m := 1) (rd := [20532]) (ob := rowI b vs) rowIT isRowIT (by kernel_rfl) Nat.one_pos rfl rfl rfl rfl (rowI_len hb b) (by omega))))
    apply V.StepsT.auto; kernel_rfl; kernel_rfl; kernel_rfl; kernel_rfl
    apply V.StepsT.auto; kernel_rfl; kernel_rfl; kernel_rfl; kernel_rfl
    apply V.StepsT.auto; kernel_rfl; kernel_rfl; kernel_rfl; kernel_rfl
    apply V.StepsT.auto; kernel_rfl; kernel_rfl; kernel_rfl; kernel_rfl
    apply V.StepsT.op; kernel_rfl; kernel_rfl; kernel_rfl; exact ((Eq.trans (b := V.opAppend Try.prog (V.getO [(104, valO [.dat (.int .i64 12), .dat (.int .i64 0), .dat mt, V.U.own 10580 (b) 0 (b + 1), V.U.own 10540 (b) 0 (b + 1)]), (112, valO [.dat (.int .i64 12), .dat (.int .i64 0), .dat mt, V.U.dat .nil, V.U.dat .nil]), (144, xO (V.U.dat .nil)), (10540, ⟨3, 1, false, b + 1, false, (rowI b vs).cells ++ [nI z].map V.U.dat⟩), (10580, rowL n (b) vs), (20024, valO [.dat (.int .i64 3), .dat (nI n), .dat mt, .dat .nil, .dat .nil]), (20532, ⟨3, 1, false, 0, false, [nI z].map V.U.dat⟩), (20572, ⟨28, 5, true, 0, false, (vnc n).map V.U.dat⟩)]) 20580 25 25 (.own 10580 b 0 (b + 1)) (.own 20572 0 0 1)) (by kernel_rfl) (V.st_appendR (s := 5) (xs := (vnc n).map V.U.dat) (m := 1) (rd := [20572]) (ob := rowL n b vs) rowLT isRowLT (by kernel_rfl) Nat.one_pos rfl rfl rfl rfl (rowL_len hb b) (by omega))))
    apply V.StepsT.auto; kernel_rfl; kernel_rfl; kernel_rfl; kernel_rfl
    apply V.StepsT.auto; kernel_rfl; kernel_rfl; kernel_rfl; kernel_rfl
    apply V.StepsT.auto; kernel_rfl; kernel_rfl; kernel_rfl; kernel_rfl
    apply V.StepsT.auto; kernel_rfl; kernel_rfl; kernel_rfl; kernel_rfl
    exact V.StepsT.done (by kernel_rfl) rfl
  · kernel_rfl
  · rfl
  · exact (V.AllKept.cons (by kernel_rfl) (by kernel_rfl) (V.AllKept.cons (by kernel_rfl) (by kernel_rfl) (V.AllKept.cons (by kernel_rfl) (by kernel_rfl) (V.AllKept.cons (ob := rowI (b + 1) (vs ++ [z])) (Eq.trans (b := some ⟨3, 1, false, b + 1, false, (rowI b vs).cells ++ [nI z].map V.U.dat⟩) (by kernel_rfl) (congrArg some (rowI_more b (b + 1) vs z))) (congrArg (fun l => List.all l _) (rowI_refs _ _)) (V.AllKept.cons (ob := rowL n (b + 1) (vs ++ [z])) (Eq.trans (b := some ⟨28, 5, true, b + 1, false, (rowL n b vs).cells ++ (vnc n).map V.U.dat⟩) (by kernel_rfl) (congrArg some (rowL_more n b (b + 1) vs z))) (congrArg (fun l => List.all l _) (rowL_refs _ _ _)) (V.AllKept.cons (by kernel_rfl) (by kernel_rfl) V.AllKept.nil))))))
  · kernel_rfl
  · kernel_rfl
  · kernel_rfl
  · kernel_rfl
theorem dr15_3 (i : Nat) (z : Int) (hz : z = (i : Int) - 3) (hi : i < 1000) (h k : D) (n : Int) (bo : Bool) {xs vs ws : List Int} {a b c : Nat} (hb : vs.length = b + 1) (hB : b < 1000) : V.Run Try.prog d15 ⟨tD h k n i (.dat (.bool bo)) (.ptr 30024 0 0), [(104, valO [.dat (.int .i64 12), .dat (.int .i64 0), .dat mt, V.U.own 20580 (b) 0 (b + 1), V.U.own 20540 (b) 0 (b + 1)]), (112, valO [.dat (.int .i64 12), .dat (.int .i64 0), .dat mt, V.U.dat .nil, V.U.dat .nil]), (144, xO (V.U.own 10048 (a) 0 (a + 1))), (10048, rowX (a) xs), (20540, rowI (b) vs), (20580, rowL n (b) vs), (30024, valO [.dat (.int .i64 3), .dat (nI n), .dat mt, .dat .nil, .dat .nil])], 30500⟩ .normal ⟨tD h k n i (.dat (.bool bo)) (.ptr 30024 0 0), [(104, valO [.dat (.int .i64 12), .dat (.int .i64 0), .dat mt, V.U.own 20580 (b + 1) 0 (b + 1 + 1), V.U.own 20540 (b + 1) 0 (b + 1 + 1)]), (112, valO [.dat (.int .i64 12), .dat (.int .i64 0), .dat mt, V.U.dat .nil, V.U.dat .nil]), (144, xO (V.U.own 10048 (a) 0 (a + 1))), (10048, rowX (a) xs), (20540, rowI (b + 1) (vs ++ [z])), (20580, rowL n (b + 1) (vs ++ [z])), (30024, valO [.dat (.int .i64 3), .dat (nI n), .dat mt, .dat .nil, .dat .nil])], 31000⟩ := by
  rw [ed15]
  apply V.Run.stepsTL (goodE _) regs follows (keep := kD) (ids := [104, 112, 144, 10048, 20540, 20580, 30024]) (nx := 31000) (by rw [← ed15]; exact regsDl.2.2.2.1.2.1.2.1)
  · apply V.StepsT.auto; kernel_rfl; kernel_rfl; kernel_rfl; kernel_rfl
    apply V.StepsT.auto; kernel_rfl; kernel_rfl; kernel_rfl; kernel_rfl
    apply V.StepsT.auto; kernel_rfl; kernel_rfl; kernel_rfl; kernel_rfl
    apply V.StepsT.op; kernel_rfl; kernel_rfl; kernel_rfl; exact ((V.st_ari (op := .sub) (x := .tmp 68) (y := .const (.int .i64 3)) (k := .i64) (m := (i : Int)) (n := 3) (r := z) (by kernel_rfl) (by kernel_rfl) (by kernel_rfl) (by simp only [V.ariI, V.wr_i64, Option.some.injEq]; omega)))
    apply V.StepsT.auto; kernel_rfl; kernel_rfl; kernel_rfl; kernel_rfl
    apply V.StepsT.op; kernel_rfl; kernel_rfl; kernel_rfl; exact ((Eq.trans (b := V.opAppend Try.prog (V.getO [(104, valO [.dat (.int .i64 12), .dat (.int .i64 0), .dat mt, V.U.own 20580 (b) 0 (b + 1), V.U.own 20540 (b) 0 (b + 1)]), (112, valO [.dat (.int .i64 12), .dat (.int .i64 0), .dat mt, V.U.dat .nil, V.U.dat .nil]), (144, xO (V.U.own 10048 (a) 0 (a + 1))), (10048, rowX (a) xs), (20540, rowI (b) vs), (20580, rowL n (b) vs), (30024, valO [.dat (.int .i64 3), .dat (nI n), .dat mt, .dat .nil, .dat .nil]), (30532, ⟨3, 1, false, 0, false, [nI z].map V.U.dat⟩)]) 30540 26 26 (.own 20540 b 0 (b + 1)) (.own 30532 0 0 1)) (by kernel_rfl) (V.st_appendR (s := 1) (xs := [nI z].map V.U.dat) (m := 1) (rd := [30532]) (ob := rowI b vs) rowIT isRowIT (by kernel_rfl) Nat.one_pos rfl rfl rfl rfl (rowI_len hb b) (by omega))))
    apply V.StepsT.auto; kernel_rfl; kernel_rfl; kernel_rfl; kernel_rfl
    apply V.StepsT.auto; kernel_rfl; kernel_rfl; kernel_rfl; kernel_rfl
    apply V.StepsT.auto; kernel_rfl; kernel_rfl; kernel_rfl; kernel_rfl
    apply V.StepsT.auto; kernel_rfl; kernel_rfl; kernel_rfl; kernel_rfl
    apply V.StepsT.op; kernel_rfl; kernel_rfl; kernel_rfl; exact ((Eq.trans (b := V.opAppend Try.prog (V.getO [(104, valO [.dat (.int .i64 12), .dat (.int .i64 0), .dat mt, V.U.own 20580 (b) 0 (b + 1), V.U.own 20540 (b) 0 (b + 1)]), (112, valO [.dat (.int .i64 12), .dat (.int .i64 0), .dat mt, V.U.dat .nil, V.U.dat .nil]), (144, xO (V.U.own 10048 (a) 0 (a + 1))), (10048, rowX (a) xs), (20540, ⟨3, 1, false, b + 1, false, (rowI b vs).cells ++ [nI z].map V.U.dat⟩), (20580, rowL n (b) vs), (30024, valO [.dat (.int .i64 3), .dat (nI n), .dat mt, .dat .nil, .dat .nil]), (30532, ⟨3, 1, false, 0, false, [nI z].map V.U.dat⟩), (30572, ⟨28, 5, true, 0, false, (vnc n).map V.U.dat⟩)]) 30580 25 25 (.own 20580 b 0 (b + 1)) (.own 30572 0 0 1)) (by kernel_rfl) (V.st_appendR (s := 5) (xs := (vnc n).map V.U.dat) (m := 1) (rd := [30572]) (ob := rowL n b vs) rowLT isRowLT (by kernel_rfl) Nat.one_pos rfl rfl rfl rfl (rowL_len hb b) (by omega))))
    apply V.StepsT.auto; kernel_rfl; kernel_rfl; kernel_rfl; kernel_rfl
    apply V.StepsT.auto; kernel_rfl; kernel_rfl; kernel_rfl; kernel_rfl
    apply V.StepsT.auto; kernel_rfl; kernel_rfl; kernel_rfl; kernel_rfl
    apply V.StepsT.auto; kernel_rfl; kernel_rfl; kernel_rfl; kernel_rfl
    exact V.StepsT.done (by kernel_rfl) rfl
  · kernel_rfl
  · rfl
  · exact (V.AllKept.cons (by kernel_rfl) (by kernel_rfl) (V.AllKept.cons (by kernel_rfl) (by kernel_rfl) (V.AllKept.cons (by kernel_rfl) (by kernel_rfl) (V.AllKept.cons (ob := rowX (a) xs) (by kernel_rfl) (congrArg (fun l => List.all l _) (rowX_refs _ _)) (V.AllKept.cons (ob := rowI (b + 1) (vs ++ [z])) (Eq.trans (b := some ⟨3, 1, false, b + 1, false, (rowI b vs).cells ++ [nI z].map V.U.dat⟩) (by kernel_rfl) (congrArg some (rowI_more b (b + 1) vs z))) (congrArg (fun l => List.all l _) (rowI_refs _ _)) (V.AllKept.cons (ob := rowL n (b + 1) (vs ++ [z])) (Eq.trans (b := some ⟨28, 5, true, b + 1, false, (rowL n b vs).cells ++ (vnc n).map V.U.dat⟩) (by kernel_rfl) (congrArg some (rowL_more n b (b + 1) vs z))) (congrArg (fun l => List.all l _) (rowL_refs _ _ _)) (V.AllKept.cons (by kernel_rfl) (by kernel_rfl) V.AllKept.nil)))))))
  · kernel_rfl
  · kernel_rfl
  · kernel_rfl
  · kernel_rfl
theorem dr15_4 (i : Nat) (z : Int) (hz : z = (i : Int) - 3) (hi : i < 1000) (h k : D) (n : Int) (bo : Bool) {xs vs ws : List Int} {a b c : Nat} (hb : vs.length = b + 1) (hB : b < 1000) : V.Run Try.prog d15 ⟨tD h k n i (.dat (.bool bo)) (.ptr 30024 0 0), [(104, valO [.dat (.int .i64 12), .dat (.int .i64 0), .dat mt, V.U.own 10580 (b) 0 (b + 1), V.U.own 10540 (b) 0 (b + 1)]), (112, valO [.dat (.int .i64 12), .dat (.int .i64 0), .dat mt, V.U.dat .nil, V.U.dat .nil]), (144, xO (V.U.own 20048 (a) 0 (a + 1))), (20048, rowX (a) xs), (10540, rowI (b) vs), (10580, rowL n (b) vs), (30024, valO [.dat (.int .i64 3), .dat (nI n), .dat mt, .dat .nil, .dat .nil])], 30500⟩ .normal ⟨tD h k n i (.dat (.bool bo)) (.ptr 30024 0 0), [(104, valO [.dat (.int .i64 12), .dat (.int .i64 0), .dat mt, V.U.own 10580 (b + 1) 0 (b + 1 + 1), V.U.own 10540 (b + 1) 0 (b + 1 + 1)]), (112, valO [.dat (.int .i64 12), .dat (.int .i64 0), .dat mt, V.U.dat .nil, V.U.dat .nil]), (144, xO (V.U.own 20048 (a) 0 (a + 1))), (20048, rowX (a) xs), (10540, rowI (b + 1) (vs ++ [z])), (10580, rowL n (b + 1) (vs ++ [z])), (30024, valO [.dat (.int .i64 3), .dat (nI n), .dat mt, .dat .nil, .dat .nil])], 31000⟩ := by
  rw [ed15]
  apply V.Run.stepsTL (goodE _) regs follows (keep := kD) (ids := [104, 112, 144, 20048, 10540, 10580, 30024]) (nx := 31000) (by rw [← ed15]; exact regsDl.2.2.2.1.2.1.2.1)
  · apply V.StepsT.auto; kernel_rfl; kernel_rfl; kernel_rfl; kernel_rfl
    apply V.StepsT.auto; kernel_rfl; kernel_rfl; kernel_rfl; kernel_rfl
    apply V.StepsT.auto; kernel_rfl; kernel_rfl; kernel_rfl; kernel_rfl
    apply V.StepsT.op; kernel_rfl; kernel_rfl; kernel_rfl; exact ((V.st_ari (op := .sub) (x := .tmp 68) (y := .const (.int .i64 3)) (k := .i64) (m := (i : Int)) (n := 3) (r := z) (by kernel_rfl) (by kernel_rfl) (by kernel_rfl) (by simp only [V.ariI, V.wr_i64, Option.some.injEq]; omega)))
    apply V.StepsT.auto; kernel_rfl; kernel_rfl; kernel_rfl; kernel_rfl
    apply V.StepsT.op; kernel_rfl; kernel_rfl; kernel_rfl; exact ((Eq.trans (b := V.opAppend Try.prog (V.getO [(104, valO [.dat (.int .i64 12), .dat (.int .i64 0), .dat mt, V.U.own 10580 (b) 0 (b + 1), V.U.own 10540 (b) 0 (b + 1)]), (112, valO [.dat (.int .i64 12), .dat (.int .i64 0), .dat mt, V.U.dat .nil, V.U.dat .nil]), (144, xO (V.U.own 20048 (a) 0 (a + 1))), (20048, rowX (a) xs), (10540, rowI (b) vs), (10580, rowL n (b) vs), (30024, valO [.dat (.int .i64 3), .dat (nI n), .dat mt, .dat .nil, .dat .nil]), (30532, ⟨3, 1, false, 0, false, [nI z].map V.U.dat⟩)]) 30540 26 26 (.own 10540 b 0 (b + 1)) (.own 30532 0 0 1)) (by kernel_rfl) (V.st_appendR (s := 1) (xs := [nI z].map V.U.dat) (m := 1) (rd := [30532]) (ob := rowI b vs) rowIT isRowIT (by kernel_rfl) Nat.one_pos rfl rfl rfl rfl (rowI_len hb b) (by omega))))
    apply V.StepsT.auto; kernel_rfl; kernel_rfl; kernel_rfl; kernel_rfl
    apply V.StepsT.auto; kernel_rfl; kernel_rfl; kernel_rfl; kernel_rfl
    apply V.StepsT.auto; kernel_rfl; kernel_rfl; kernel_rfl; kernel_rfl
    apply V.StepsT.auto; kernel_rfl; kernel_rfl; kernel_rfl; kernel_rfl
    apply V.StepsT.op; kernel_rfl; kernel_rfl; kernel_rfl; exact ((Eq.trans (b := V.opAppend Try.prog (V.getO [(104, valO [.dat (.int .i64 12), .dat (.int .i64 0), .dat mt, V.U.own 10580 (b) 0 (b + 1), V.U.own 10540 (b) 0 (b + 1)]), (112, valO [.dat (.int .i64 12), .dat (.int .i64 0), .dat mt, V.U.dat .nil, V.U.dat .nil]), (144, xO (V.U.own 20048 (a) 0 (a + 1))), (20048, rowX (a) xs), (10540, ⟨3, 1, false, b + 1, false, (rowI b vs).cells ++ [nI z].map V.U.dat⟩), (10580, rowL n (b) vs), (30024, valO [.dat (.int .i64 3), .dat (nI n), .dat mt, .dat .nil, .dat .nil]), (30532, ⟨3, 1, false, 0, false, [nI z].map V.U.dat⟩), (30572, ⟨28, 5, true, 0, false, (vnc n).map V.U.dat⟩)]) 30580 25 25 (.own 10580 b 0 (b + 1)) (.own 30572 0 0 1)) (by kernel_rfl) (V.st_appendR (s := 5) (xs := (vnc n).map V.U.dat) (m := 1) (rd := [30572]) (ob := rowL n b vs) rowLT isRowLT (by kernel_rfl) Nat.one_pos rfl rfl rfl rfl (rowL_len hb b) (by omega))))
    apply V.StepsT.auto; kernel_rfl; kernel_rfl; kernel_rfl; kernel_rfl
    apply V.StepsT.auto; kernel_rfl; kernel_rfl; kernel_rfl; kernel_rfl
    apply V.StepsT.auto; kernel_rfl; kernel_rfl; kernel_rfl; kernel_rfl
    apply V.StepsT.auto; kernel_rfl; kernel_rfl; kernel_rfl; kernel_rfl
    exact V.StepsT.done (by kernel_rfl) rfl
  · kernel_rfl
  · rfl
  · exact (V.AllKept.cons (by kernel_rfl) (by kernel_rfl) (V.AllKept.cons (by kernel_rfl) (by kernel_rfl) (V.AllKept.cons (by kernel_rfl) (by kernel_rfl) (V.AllKept.cons (ob := rowX (a) xs) (by kernel_rfl) (congrArg (fun l => List.all l _) (rowX_refs _ _)) (V.AllKept.cons (ob := rowI (b + 1) (vs ++ [z])) (Eq.trans (b := some ⟨3, 1, false, b + 1, false, (rowI b vs).cells ++ [nI z].map V.U.dat⟩) (by kernel_rfl) (congrArg some (rowI_more b (b + 1) vs z))) (congrArg (fun l => List.all l _) (rowI_refs _ _)) (V.AllKept.cons (ob := rowL n (b + 1) (vs ++ [z])) (Eq.trans (b := some ⟨28, 5, true, b + 1, false, (rowL n b vs).cells ++ (vnc n).map V.U.dat⟩) (by kernel_rfl) (congrArg some (rowL_more n b (b + 1) vs z))) (congrArg (fun l => List.all l _) (rowL_refs _ _ _)) (V.AllKept.cons (by kernel_rfl) (by kernel_rfl) V.AllKept.nil)))))))
  · kernel_rfl
  · kernel_rfl
  · kernel_rfl
  · kernel_rfl
theorem dr15_5 (i : Nat) (z : Int) (hz : z = (i : Int) - 3) (hi : i < 1000) (h k : D) (n : Int) (bo : Bool) {xs vs ws : List Int} {a b c : Nat} (hb : vs.length = b + 1) (hB : b < 1000) : V.Run Try.prog d15 ⟨tD h k n i (.dat (.bool bo)) (.ptr 40024 0 0), [(104, valO [.dat (.int .i64 12), .dat (.int .i64 0), .dat mt, V.U.own 20580 (b) 0 (b + 1), V.U.own 20540 (b) 0 (b + 1)]), (112, valO [.dat (.int .i64 12), .dat (.int .i64 0), .dat mt, V.U.own 31080 (c) 0 (c + 1), V.U.own 31040 (c) 0 (c + 1)]), (144, xO (V.U.own 10048 (a) 0 (a + 1))), (10048, rowX (a) xs), (20540, rowI (b) vs), (20580, rowL n (b) vs), (31040, rowI (c) ws), (31080, rowL n (c) ws), (40024, valO [.dat (.int .i64 3), .dat (nI n), .dat mt, .dat .nil, .dat .nil])], 40500⟩ .normal ⟨tD h k n i (.dat (.bool bo)) (.ptr 40024 0 0), [(104, valO [.dat (.int .i64 12), .dat (.int .i64 0), .dat mt, V.U.own 20580 (b + 1) 0 (b + 1 + 1), V.U.own 20540 (b + 1) 0 (b + 1 + 1)]), (112, valO [.dat (.int .i64 12), .dat (.int .i64 0), .dat mt, V.U.own 31080 (c) 0 (c + 1), V.U.own 31040 (c) 0 (c + 1)]), (144, xO (V.U.own 10048 (a) 0 (a + 1))), (10048, rowX (a) xs), (20540, rowI (b + 1) (vs ++ [z])), (20580, rowL n (b + 1) (vs ++ [z])), (31040, rowI (c) ws), (31080, rowL n (c) ws), (40024, valO [.dat (.int .i64 3), .dat (nI n), .dat mt, .dat .nil, .dat .nil])], 41000⟩ := by
  rw [ed15]
  apply V.Run.stepsTL (goodE _) regs follows (keep := kD) (ids := [104, 112, 144, 10048, 20540, 20580, 31040, 31080, 40024]) (nx := 41000) (by rw [← ed15]; exact regsDl.2.2.2.1.2.1.2.1)
  · apply V.StepsT.auto; kernel_rfl; kernel_rfl; kernel_rfl; kernel_rfl
    apply V.StepsT.auto; kernel_rfl; kernel_rfl; kernel_rfl; kernel_rfl
    apply V.StepsT.auto; kernel_rfl; kernel_rfl; kernel_rfl; kernel_rfl
    apply V.StepsT.op; kernel_rfl; kernel_rfl; kernel_rfl; exact ((V.st_ari (op := .sub) (x := .tmp 68) (y := .const (.int .i64 3)) (k := .i64) (m := (i : Int)) (n := 3) (r := z) (by kernel_rfl) (by kernel_rfl) (by kernel_rfl) (by simp only [V.ariI, V.wr_i64, Option.some.injEq]; omega)))
    apply V.StepsT.auto; kernel_rfl; kernel_rfl; kernel_rfl; kernel_rfl
    apply V.StepsT.op; kernel_rfl; kernel_rfl; kernel_rfl; exact ((Eq.trans (b := V.opAppend Try.prog (V.getO [(104, valO [.dat (.int .i64 12), .dat (.int .i64 0), .dat mt, V.U.own 20580 (b) 0 (b + 1), V.U.own 20540 (b) 0 (b + 1)]), (112, valO [.dat (.int .i64 12), .dat (.int .i64 0), .dat mt, V.U.own 31080 (c) 0 (c + 1), V.U.own 31040 (c) 0 (c + 1)]), (144, xO (V.U.own 10048 (a) 0 (a + 1))), (10048, rowX (a) xs), (20540, rowI (b) vs), (20580, rowL n (b) vs), (31040, rowI (c) ws), (31080, rowL n (c) ws), (40024, valO [.dat (.int .i64 3), .dat (nI n), .dat mt, .dat .nil, .dat .nil]), (40532, ⟨3, 1, false, 0, false, [nI z].map V.U.dat⟩)]) 40540 26 26 (.own 20540 b 0 (b + 1)) (.own 40532 0 0 1)) (by kernel_rfl) (V.st_appendR (s := 1) (xs := [nI z].map V.U.dat) (m := 1) (rd := [40532]) (ob := rowI b vs) rowIT isRowIT (by kernel_rfl) Nat.one_pos rfl rfl rfl rfl (rowI_len hb b) (by omega))))
    apply V.StepsT.auto; kernel_rfl; kernel_rfl; kernel_rfl; kernel_rfl
    apply V.StepsT.auto; kernel_rfl; kernel_rfl; kernel_rfl; kernel_rfl
    apply V.StepsT.auto; kernel_rfl; kernel_rfl; kernel_rfl; kernel_rfl
    apply V.StepsT.auto; kernel_rfl; kernel_rfl; kernel_rfl; kernel_rfl
    apply V.StepsT.op; kernel_rfl; kernel_rfl; kernel_rfl; exact ((Eq.trans (b := V.opAppend Try.prog (V.getO [(104, valO [.dat (.int .i64 12), .dat (.int .i64 0), .dat mt, V.U.own 20580 (b) 0 (b + 1), V.U.own 20540 (b) 0 (b + 1)]), (112, valO [.dat (.int .i64 12), .dat (.int .i64 0), .dat mt, V.U.own 31080 (c) 0 (c + 1), V.U.own 31040 (c) 0 (c + 1)]), (144, xO (V.U.own 10048 (a) 0 (a + 1))), (10048, rowX (a) xs), (20540, ⟨3, 1, false, b + 1, false, (rowI b vs).cells ++ [nI z].map V.U.dat⟩), (20580, rowL n (b) vs), (31040, rowI (c) ws), (31080, rowL n (c) ws), (40024, valO [.dat (.int .i64 3), .dat (nI n), .dat mt, .dat .nil, .dat .nil]), (40532, ⟨3, 1, false, 0, false, [nI z].map V.U.dat⟩), (40572, ⟨28, 5, true, 0, false, (vnc n).map V.U.dat⟩)]) 40580 25 25 (.own 20580 b 0 (b + 1)) (.own 40572 0 0 1)) (by kernel_rfl) (V.st_appendR (s := 5) (xs := (vnc n).map V.U.dat) (m := 1) (rd := [40572]) (ob := rowL n b vs) rowLT isRowLT (by kernel_rfl) Nat.one_pos rfl rfl rfl rfl (rowL_len hb b) (by omega))))
    apply V.StepsT.auto; kernel_rfl; kernel_rfl; kernel_rfl; kernel_rfl
    apply V.StepsT.auto; kernel_rfl; kernel_rfl; kernel_rfl; kernel_rfl
    apply V.StepsT.auto; kernel_rfl; kernel_rfl; kernel_rfl; kernel_rfl
    apply V.StepsT.auto; kernel_rfl; kernel_rfl; kernel_rfl; kernel_rfl
    exact V.StepsT.done (by kernel_rfl) rfl
  · kernel_rfl
  · rfl
  · exact (V.AllKept.cons (by kernel_rfl) (by kernel_rfl) (V.AllKept.cons (by kernel_rfl) (by kernel_rfl) (V.AllKept.cons (by kernel_rfl) (by kernel_rfl) (V.AllKept.cons (ob := rowX (a) xs) (by kernel_rfl) (congrArg (fun l => List.all l _) (rowX_refs _ _)) (V.AllKept.cons (ob := rowI (b + 1) (vs ++ [z])) (Eq.trans (b := some ⟨3, 1, false, b + 1, false, (rowI b vs).cells ++ [nI z].map V.U.dat⟩) (by kernel_rfl) (congrArg some (rowI_more b (b + 1) vs z))) (congrArg (fun l => List.all l _) (rowI_refs _ _)) (V.AllKept.cons (ob := rowL n (b + 1) (vs ++ [z])) (Eq.trans (b := some ⟨28, 5, true, b + 1, false, (rowL n b vs).cells ++ (vnc n).map V.U.dat⟩) (by kernel_rfl) (congrArg some (rowL_more n b (b + 1) vs z))) (congrArg (fun l => List.all l _) (rowL_refs _ _ _)) (V.AllKept.cons (ob := rowI (c) ws) (by kernel_rfl) (congrArg (fun l => List.all l _) (rowI_refs _ _)) (V.AllKept.cons (ob := rowL n (c) ws) (by kernel_rfl) (congrArg (fun l => List.all l _) (rowL_refs _ _ _)) (V.AllKept.cons (by kernel_rfl) (by kernel_rfl) V.AllKept.nil)))))))))
  · kernel_rfl
  · kernel_rfl
  · kernel_rfl
  · kernel_rfl
theorem dr15_6 (i : Nat) (z : Int) (hz : z = (i : Int) - 3) (hi : i < 1000) (h k : D) (n : Int) (bo : Bool) {xs vs ws : List Int} {a b c : Nat} (hb : vs.length = b + 1) (hB : b < 1000) : V.Run Try.prog d15 ⟨tD h k n i (.dat (.bool bo)) (.ptr 40024 0 0), [(104, valO [.dat (.int .i64 12), .dat (.int .i64 0), .dat mt, V.U.own 10580 (b) 0 (b + 1), V.U.own 10540 (b) 0 (b + 1)]), (112, valO [.dat (.int .i64 12), .dat (.int .i64 0), .dat mt, V.U.own 31080 (c) 0 (c + 1), V.U.own 31040 (c) 0 (c + 1)]), (144, xO (V.U.own 20048 (a) 0 (a + 1))), (20048, rowX (a) xs), (10540, rowI (b) vs), (10580, rowL n (b) vs), (31040, rowI (c) ws), (31080, rowL n (c) ws), (40024, valO [.dat (.int .i64 3), .dat (nI n), .dat mt, .dat .nil, .dat .nil])], 40500⟩ .normal ⟨tD h k n i (.dat (.bool bo)) (.ptr 40024 0 0), [(104, valO [.dat (.int .i64 12), .dat (.int .i64 0), .dat mt, V.U.own 10580 (b + 1) 0 (b + 1 + 1), V.U.own 10540 (b + 1) 0 (b + 1 + 1)]), (112, valO [.dat (.int .i64 12), .dat (.int .i64 0), .dat mt, V.U.own 31080 (c) 0 (c + 1), V.U.own 31040 (c) 0 (c + 1)]), (144, xO (V.U.own 20048 (a) 0 (a + 1))), (20048, rowX (a) xs), (10540, rowI (b + 1) (vs ++ [z])), (10580, rowL n (b + 1) (vs ++ [z])), (31040, rowI (c) ws), (31080, rowL n (c) ws), (40024, valO [.dat (.int .i64 3), .dat (nI n), .dat mt, .dat .nil, .dat .nil])], 41000⟩ := by
  rw [ed15]
  apply V.Run.stepsTL (goodE _) regs follows (keep := kD) (ids := [104, 112, 144, 20048, 10540, 10580, 31040, 31080, 40024]) (nx := 41000) (by rw [← ed15]; exact regsDl.2.2.2.1.2.1.2.1)
  · apply V.StepsT.auto; kernel_rfl; kernel_rfl; kernel_rfl; kernel_rfl
    apply V.StepsT.auto; kernel_rfl; kernel_rfl; kernel_rfl; kernel_rfl
    apply V.StepsT.auto; kernel_rfl; kernel_rfl; kernel_rfl; kernel_rfl
    apply V.StepsT.op; kernel_rfl; kernel_rfl; kernel_rfl; exact ((V.st_ari (op := .sub) (x := .tmp 68) (y := .const (.int .i64 3)) (k := .i64) (m := (i : Int)) (n := 3) (r := z) (by kernel_rfl) (by kernel_rfl) (by kernel_rfl) (by simp only [V.ariI, V.wr_i64, Option.some.injEq]; omega)))
    apply V.StepsT.auto; kernel_rfl; kernel_rfl; kernel_rfl; kernel_rfl
    apply V.StepsT.op; kernel_rfl; kernel_rfl; kernel_rfl; exact ((Eq.trans (b := V.opAppend Try.prog (V.getO [(104, valO [.dat (.int .i64 12), .dat (.int .i64 0), .dat mt, V.U.own 10580 (b) 0 (b + 1), V.U.own 10540 (b) 0 (b + 1)]), (112, valO [.dat (.int .i64 12), .dat (.int .i64 0), .dat mt, V.U.own 31080 (c) 0 (c + 1), V.U.own 31040 (c) 0 (c + 1)]), (144, xO (V.U.own 20048 (a) 0 (a + 1))), (20048, rowX (a) xs), (10540, rowI (b) vs), (10580, rowL n (b) vs), (31040, rowI (c) ws), (31080, rowL n (c) ws), (40024, valO [.dat (.int .i64 3), .dat (nI n), .dat mt, .dat .nil, .dat .nil]), (40532, ⟨3, 1, false, 0, false, [nI z].map V.U.dat⟩)]) 40540 26 26 (.own 10540 b 0 (b + 1)) (.own 40532 0 0 1)) (by kernel_rfl) (V.st_appendR (s := 1) (xs := [nI z].map V.U.dat) (m := 1) (rd := [40532]) (ob := rowI b vs) rowIT isRowIT (by kernel_rfl) Nat.one_pos rfl rfl rfl rfl (rowI_len hb b) (by omega))))
    apply V.StepsT.auto; kernel_rfl; kernel_rfl; kernel_rfl; kernel_rfl
    apply V.StepsT.auto; kernel_rfl; kernel_rfl; kernel_rfl; kernel_rfl
    apply V.StepsT.auto; kernel_rfl; kernel_rfl; kernel_rfl; kernel_rfl
    apply V.StepsT.auto; kernel_rfl; kernel_rfl; kernel_rfl; kernel_rfl
    apply V.StepsT.op; kernel_rfl; kernel_rfl; kernel_rfl; exact ((Eq.trans (b := V.opAppend Try.prog (V.getO [(104, valO [.dat (.int .i64 12), .dat (.int .i64 0), .dat mt, V.U.own 10580 (b) 0 (b + 1), V.U.own 10540 (b) 0 (b + 1)]), (112, valO [.dat (.int .i64 12), .dat (.int .i64 0), .dat mt, V.U.own 31080 (c) 0 (c + 1), V.U.own 31040 (c) 0 (c + 1)]), (144, xO (V.U.own 20048 (a) 0 (a + 1))), (20048, rowX (a) xs), (10540, ⟨3, 1, false, b + 1, false, (rowI b vs).cells ++ [nI z].map V.U.dat⟩), (10580, rowL n (b) vs), (31040, rowI (c) ws), (31080, rowL n (c) ws), (40024, valO [.dat (.int .i64 3), .dat (nI n), .dat mt, .dat .nil, .dat .nil]), (40532, ⟨3, 1, false, 0, false, [nI z].map V.U.dat⟩), (40572, ⟨28, 5, true, 0, false, (vnc n).map V.U.dat⟩)]) 40580 25 25 (.own 10580 b 0 (b + 1)) (.own 40572 0 0 1)) (by kernel_rfl) (V.st_appendR (s := 5) (xs := (vnc n).map V.U.dat) (m := 1) (rd := [40572]) (ob := rowL n b vs) rowLT isRowLT (by kernel_rfl) Nat.one_pos rfl rfl rfl rfl (rowL_len hb b) (by omega))))
    apply V.StepsT.auto; kernel_rfl; kernel_rfl; kernel_rfl; kernel_rfl
    apply V.StepsT.auto; kernel_rfl; kernel_rfl; kernel_rfl; kernel_rfl
    apply V.StepsT.auto; kernel_rfl; kernel_rfl; kernel_rfl; kernel_rfl
    apply V.StepsT.auto; kernel_rfl; kernel_rfl; kernel_rfl; kernel_rfl
    exact V.StepsT.done (by kernel_rfl) rfl
  · kernel_rfl
  · rfl
  · exact (V.AllKept.cons (by kernel_rfl) (by kernel_rfl) (V.AllKept.cons (by kernel_rfl) (by kernel_rfl) (V.AllKept.cons (by kernel_rfl) (by kernel_rfl) (V.AllKept.cons (ob := rowX (a) xs) (by kernel_rfl) (congrArg (fun l => List.all l _) (rowX_refs _ _)) (V.AllKept.cons (ob := rowI (b + 1) (vs ++ [z])) (Eq.trans (b := some ⟨3, 1, false, b + 1, false, (rowI b vs).cells ++ [nI z].map V.U.dat⟩) (by kernel_rfl) (congrArg some (rowI_more b (b + 1) vs z))) (congrArg (fun l => List.all l _) (rowI_refs _ _)) (V.AllKept.cons (ob := rowL n (b + 1) (vs ++ [z])) (Eq.trans (b := some ⟨28, 5, true, b + 1, false, (rowL n b vs).cells ++ (vnc n).map V.U.dat⟩) (by kernel_rfl) (congrArg some (rowL_more n b (b + 1) vs z))) (congrArg (fun l => List.all l _) (rowL_refs _ _ _)) (V.AllKept.cons (ob := rowI (c) ws) (by kernel_rfl) (congrArg (fun l => List.all l _) (rowI_refs _ _)) (V.AllKept.cons (ob := rowL n (c) ws) (by kernel_rfl) (congrArg (fun l => List.all l _) (rowL_refs _ _ _)) (V.AllKept.cons (by kernel_rfl) (by kernel_rfl) V.AllKept.nil)))))))))
  · kernel_rfl
  · kernel_rfl
  · kernel_rfl
  · kernel_rfl
theorem dr17_3 (i : Nat) (z : Int) (hz : z = (i : Int) - 3) (hi : i < 1000) (h k : D) (n : Int) (bo : Bool) {xs vs ws : List Int} {a b c : Nat}  : V.Run Try.prog d17 ⟨tD h k n i (.dat (.bool bo)) (.ptr 20024 0 0), [(104, valO [.dat (.int .i64 12), .dat (.int .i64 0), .dat mt, V.U.own 20580 (b) 0 (b + 1), V.U.own 20540 (b) 0 (b + 1)]), (112, valO [.dat (.int .i64 12), .dat (.int .i64 0), .dat mt, V.U.dat .nil, V.U.dat .nil]), (144, xO (V.U.own 10048 (a) 0 (a + 1))), (10048, rowX (a) xs), (20540, rowI (b) vs), (20580, rowL n (b) vs), (20024, valO [.dat (.int .i64 3), .dat (nI n), .dat mt, .dat .nil, .dat .nil])], 31000⟩ .normal ⟨tD h k n i (.dat (.bool bo)) (.ptr 20024 0 0), [(104, valO [.dat (.int .i64 12), .dat (.int .i64 0), .dat mt, V.U.own 20580 (b) 0 (b + 1), V.U.own 20540 (b) 0 (b + 1)]), (112, valO [.dat (.int .i64 12), .dat (.int .i64 0), .dat mt, V.U.own 31080 (0) 0 (0 + 1), V.U.own 31040 (0) 0 (0 + 1)]), (144, xO (V.U.own 10048 (a) 0 (a + 1))), (10048, rowX (a) xs), (20540, rowI (b) vs), (20580, rowL n (b) vs), (31040, rowI (0) [z]), (31080, rowL n (0) [z]), (20024, valO [.dat (.int .i64 3), .dat (nI n), .dat mt, .dat .nil, .dat .nil])], 42000⟩ := by
  rw [ed17]
  apply V.Run.stepsTL (goodE _) regs follows (keep := kD) (ids := [104, 112, 144, 10048, 20540, 20580, 31040, 31080, 20024]) (nx := 42000) (by rw [← ed17]; exact regsDl.2.2.2.1.2.1.2.2.2.1)
  · apply V.StepsT.auto; kernel_rfl; kernel_rfl; kernel_rfl; kernel_rfl
    apply V.StepsT.auto; kernel_rfl; kernel_rfl; kernel_rfl; kernel_rfl
    apply V.StepsT.auto; kernel_rfl; kernel_rfl; kernel_rfl; kernel_rfl
    apply V.StepsT.op; kernel_rfl; kernel_rfl; kernel_rfl; exact ((V.st_ari (op := .sub) (x := .tmp 82) (y := .const (.int .i64 3)) (k := .i64) (m := (i : Int)) (n := 3) (r := z) (by kernel_rfl) (by kernel_rfl) (by kernel_rfl) (by simp only [V.ariI, V.wr_i64, Option.some.injEq]; omega)))
    apply V.StepsT.auto; kernel_rfl; kernel_rfl; kernel_rfl; kernel_rfl
    apply V.StepsT.auto; kernel_rfl; kernel_rfl; kernel_rfl; kernel_rfl
    apply V.StepsT.auto; kernel_rfl; kernel_rfl; kernel_rfl; kernel_rfl
    apply V.StepsT.auto; kernel_rfl; kernel_rfl; kernel_rfl; kernel_rfl
    apply V.StepsT.auto; kernel_rfl; kernel_rfl; kernel_rfl; kernel_rfl
    apply V.StepsT.auto; kernel_rfl; kernel_rfl; kernel_rfl; kernel_rfl
    apply V.StepsT.auto; kernel_rfl; kernel_rfl; kernel_rfl; kernel_rfl
    apply V.StepsT.auto; kernel_rfl; kernel_rfl; kernel_rfl; kernel_rfl
    apply V.StepsT.auto; kernel_rfl; kernel_rfl; kernel_rfl; kernel_rfl
    apply V.StepsT.auto; kernel_rfl; kernel_rfl; kernel_rfl; kernel_rfl
    apply V.StepsT.auto; kernel_rfl; kernel_rfl; kernel_rfl; kernel_rfl
    exact V.StepsT.done (by kernel_rfl) rfl
  · kernel_rfl
  · rfl
  · exact (V.AllKept.cons (by kernel_rfl) (by kernel_rfl) (V.AllKept.cons (by kernel_rfl) (by kernel_rfl) (V.AllKept.cons (by kernel_rfl) (by kernel_rfl) (V.AllKept.cons (ob := rowX (a) xs) (by kernel_rfl) (congrArg (fun l => List.all l _) (rowX_refs _ _)) (V.AllKept.cons (ob := rowI (b) vs) (by kernel_rfl) (congrArg (fun l => List.all l _) (rowI_refs _ _)) (V.AllKept.cons (ob := rowL n (b) vs) (by kernel_rfl) (congrArg (fun l => List.all l _) (rowL_refs _ _ _)) (V.AllKept.cons (ob := rowI (0) [z]) (by kernel_rfl) (congrArg (fun l => List.all l _) (rowI_refs _ _)) (V.AllKept.cons (ob := rowL n (0) [z]) (by kernel_rfl) (congrArg (fun l => List.all l _) (rowL_refs _ _ _)) (V.AllKept.cons (by kernel_rfl) (by kernel_rfl) V.AllKept.nil)))))))))
  · kernel_rfl
  · kernel_rfl
  · kernel_rfl
  · kernel_rfl
theorem dr17b_3 (i : Nat) (z : Int) (hz : z = (i : Int) - 3) (hi : i < 1000) (h k : D) (n : Int) (bo : Bool) {xs vs ws : List Int} {a b c : Nat}  : V.Run Try.prog d17 ⟨tD h k n i (.dat (.bool bo)) (.ptr 30024 0 0), [(104, valO [.dat (.int .i64 12), .dat (.int .i64 0), .dat mt, V.U.own 20580 (b) 0 (b + 1), V.U.own 20540 (b) 0 (b + 1)]), (112, valO [.dat (.int .i64 12), .dat (.int .i64 0), .dat mt, V.U.dat .nil, V.U.dat .nil]), (144, xO (V.U.own 10048 (a) 0 (a + 1))), (10048, rowX (a) xs), (20540, rowI (b) vs), (20580, rowL n (b) vs), (30024, valO [.dat (.int .i64 3), .dat (nI n), .dat mt, .dat .nil, .dat .nil])], 31000⟩ .normal ⟨tD h k n i (.dat (.bool bo)) (.ptr 30024 0 0), [(104, valO [.dat (.int .i64 12), .dat (.int .i64 0), .dat mt, V.U.own 20580 (b) 0 (b + 1), V.U.own 20540 (b) 0 (b + 1)]), (112, valO [.dat (.int .i64 12), .dat (.int .i64 0), .dat mt, V.U.own 31080 (0) 0 (0 + 1), V.U.own 31040 (0) 0 (0 + 1)]), (144, xO (V.U.own 10048 (a) 0 (a + 1))), (10048, rowX (a) xs), (20540, rowI (b) vs), (20580, rowL n (b) vs), (31040, rowI (0) [z]), (31080, rowL n (0) [z]), (30024, valO [.dat (.int .i64 3), .dat (nI n), .dat mt, .dat .nil, .dat .nil])], 42000⟩ := by
  rw [ed17]
  apply V.Run.stepsTL (goodE _) regs follows (keep := kD) (ids := [104, 112, 144, 10048, 20540, 20580, 31040, 31080, 30024]) (nx := 42000) (by rw [← ed17]; exact regsDl.2.2.2.1.2.1.2.2.2.1)
  · apply V.StepsT.auto; kernel_rfl; kernel_rfl; kernel_rfl; kernel_rfl
    apply V.StepsT.auto; kernel_rfl; kernel_rfl; kernel_rfl; kernel_rfl
    apply V.StepsT.auto; kernel_rfl; kernel_rfl; kernel_rfl; kernel_rfl
    apply V.StepsT.op; kernel_rfl; kernel_rfl; kernel_rfl; exact ((V.st_ari (op := .sub) (x := .tmp 82) (y := .const (.int .i64 3)) (k := .i64) (m := (i : Int)) (n := 3) (r := z) (by kernel_rfl) (by kernel_rfl) (by kernel_rfl) (by simp only [V.ariI, V.wr_i64, Option.some.injEq]; omega)))
    apply V.StepsT.auto; kernel_rfl; kernel_rfl; kernel_rfl; kernel_rfl
    apply V.StepsT.auto; kernel_rfl; kernel_rfl; kernel_rfl; kernel_rfl
    apply V.StepsT.auto; kernel_rfl; kernel_rfl; kernel_rfl; kernel_rfl
    apply V.StepsT.auto; kernel_rfl; kernel_rfl; kernel_rfl; kernel_rfl
    apply V.StepsT.auto; kernel_rfl; kernel_rfl; kernel_rfl; kernel_rfl
    apply V.StepsT.auto; kernel_rfl; kernel_rfl; kernel_rfl; kernel_rfl
    apply V.StepsT.auto; kernel_rfl; kernel_rfl; kernel_rfl; kernel_rfl
    apply V.StepsT.auto; kernel_rfl; kernel_rfl; kernel_rfl; kernel_rfl
    apply V.StepsT.auto; kernel_rfl; kernel_rfl; kernel_rfl; kernel_rfl
    apply V.StepsT.auto; kernel_rfl; kernel_rfl; kernel_rfl; kernel_rfl
    apply V.StepsT.auto; kernel_rfl; kernel_rfl; kernel_rfl; kernel_rfl
    exact V.StepsT.done (by kernel_rfl) rfl
  · kernel_rfl
  · rfl
  · exact (V.AllKept.cons (by kernel_rfl) (by kernel_rfl) (V.AllKept.cons (by kernel_rfl) (by kernel_rfl) (V.AllKept.cons (by kernel_rfl) (by kernel_rfl) (V.AllKept.cons (ob := rowX (a) xs) (by kernel_rfl) (congrArg (fun l => List.all l _) (rowX_refs _ _)) (V.AllKept.cons (ob := rowI (b) vs) (by kernel_rfl) (congrArg (fun l => List.all l _) (rowI_refs _ _)) (V.AllKept.cons (ob := rowL n (b) vs) (by kernel_rfl) (congrArg (fun l => List.all l _) (rowL_refs _ _ _)) (V.AllKept.cons (ob := rowI (0) [z]) (by kernel_rfl) (congrArg (fun l => List.all l _) (rowI_refs _ _)) (V.AllKept.cons (ob := rowL n (0) [z]) (by kernel_rfl) (congrArg (fun l => List.all l _) (rowL_refs _ _ _)) (V.AllKept.cons (by kernel_rfl) (by kernel_rfl) V.AllKept.nil)))))))))
  · kernel_rfl
  · kernel_rfl
  · kernel_rfl
  · kernel_rfl
theorem dr17_4 (i : Nat) (z : Int) (hz : z = (i : Int) - 3) (hi : i < 1000) (h k : D) (n : Int) (bo : Bool) {xs vs ws : List Int} {a b c : Nat}  : V.Run Try.prog d17 ⟨tD h k n i (.dat (.bool bo)) (.ptr 30024 0 0), [(104, valO [.dat (.int .i64 12), .dat (.int .i64 0), .dat mt, V.U.own 10580 (b) 0 (b + 1), V.U.own 10540 (b) 0 (b + 1)]), (112, valO [.dat (.int .i64 12), .dat (.int .i64 0), .dat mt, V.U.dat .nil, V.U.dat .nil]), (144, xO (V.U.own 20048 (a) 0 (a + 1))), (20048, rowX (a) xs), (10540, rowI (b) vs), (10580, rowL n (b) vs), (30024, valO [.dat (.int .i64 3), .dat (nI n), .dat mt, .dat .nil, .dat .nil])], 31000⟩ .normal ⟨tD h k n i (.dat (.bool bo)) (.ptr 30024 0 0), [(104, valO [.dat (.int .i64 12), .dat (.int .i64 0), .dat mt, V.U.own 10580 (b) 0 (b + 1), V.U.own 10540 (b) 0 (b + 1)]), (112, valO [.dat (.int .i64 12), .dat (.int .i64 0), .dat mt, V.U.own 31080 (0) 0 (0 + 1), V.U.own 31040 (0) 0 (0 + 1)]), (144, xO (V.U.own 20048 (a) 0 (a + 1))), (20048, rowX (a) xs), (10540, rowI (b) vs), (10580, rowL n (b) vs), (31040, rowI (0) [z]), (31080, rowL n (0) [z]), (30024, valO [.dat (.int .i64 3), .dat (nI n), .dat mt, .dat .nil, .dat .nil])], 42000⟩ := by
  rw [ed17]
  apply V.Run.stepsTL (goodE _) regs follows (keep := kD) (ids := [104, 112, 144, 20048, 10540, 10580, 31040, 31080, 30024]) (nx := 42000) (by rw [← ed17]; exact regsDl.2.2.2.1.2.1.2.2.2.1)
  · apply V.StepsT.auto; kernel_rfl; kernel_rfl; kernel_rfl; kernel_rfl
    apply V.StepsT.auto; kernel_rfl; kernel_rfl; kernel_rfl; kernel_rfl
    apply V.StepsT.auto; kernel_rfl; kernel_rfl; kernel_rfl; kernel_rfl
    apply V.StepsT.op; kernel_rfl; kernel_rfl; kernel_rfl; exact ((V.st_ari (op := .sub) (x := .tmp 82) (y := .const (.int .i64 3)) (k := .i64) (m := (i : Int)) (n := 3) (r := z) (by kernel_rfl) (by kernel_rfl) (by kernel_rfl) (by simp only [V.ariI, V.wr_i64, Option.some.injEq]; omega)))
    apply V.StepsT.auto; kernel_rfl; kernel_rfl; kernel_rfl; kernel_rfl
    apply V.StepsT.auto; kernel_rfl; kernel_rfl; kernel_rfl; kernel_rfl
    apply V.StepsT.auto; kernel_rfl; kernel_rfl; kernel_rfl; kernel_rfl
    apply V.StepsT.auto; kernel_rfl; kernel_rfl; kernel_rfl; kernel_rfl
    apply V.StepsT.auto; kernel_rfl; kernel_rfl; kernel_rfl; kernel_rfl
    apply V.StepsT.auto; kernel_rfl; kernel_rfl; kernel_rfl; kernel_rfl
    apply V.StepsT.auto; kernel_rfl; kernel_rfl; kernel_rfl; kernel_rfl
    apply V.StepsT.auto; kernel_rfl; kernel_rfl; kernel_rfl; kernel_rfl
    apply V.StepsT.auto; kernel_rfl; kernel_rfl; kernel_rfl; kernel_rfl
    apply V.StepsT.auto; kernel_rfl; kernel_rfl; kernel_rfl; kernel_rfl
    apply V.StepsT.auto; kernel_rfl; kernel_rfl; kernel_rfl; kernel_rfl
    exact V.StepsT.done (by kernel_rfl) rfl
  · kernel_rfl
  · rfl
  · exact (V.AllKept.cons (by kernel_rfl) (by kernel_rfl) (V.AllKept.cons (by kernel_rfl) (by kernel_rfl) (V.AllKept.cons (by kernel_rfl) (by kernel_rfl) (V.AllKept.cons (ob := rowX (a) xs) (by kernel_rfl) (congrArg (fun l => List.all l _) (rowX_refs _ _)) (V.AllKept.cons (ob := rowI (b) vs) (by kernel_rfl) (congrArg (fun l => List.all l _) (rowI_refs _ _)) (V.AllKept.cons (ob := rowL n (b) vs) (by kernel_rfl) (congrArg (fun l => List.all l _) (rowL_refs _ _ _)) (V.AllKept.cons (ob := rowI (0) [z]) (by kernel_rfl) (congrArg (fun l => List.all l _) (rowI_refs _ _)) (V.AllKept.cons (ob := rowL n (0) [z]) (by kernel_rfl) (congrArg (fun l => List.all l _) (rowL_refs _ _ _)) (V.AllKept.cons (by kernel_rfl) (by kernel_rfl) V.AllKept.nil)))))))))
  · kernel_rfl
  · kernel_rfl
  · kernel_rfl
  · kernel_rfl
theorem dr17_5 (i : Nat) (z : Int) (hz : z = (i : Int) - 3) (hi : i < 1000) (h k : D) (n : Int) (bo : Bool) {xs vs ws : List Int} {a b c : Nat} (hc : ws.length = c + 1) (hC : c < 1000) : V.Run Try.prog d17 ⟨tD h k n i (.dat (.bool bo)) (.ptr 40024 0 0), [(104, valO [.dat (.int .i64 12), .dat (.int .i64 0), .dat mt, V.U.own 20580 (b) 0 (b + 1), V.U.own 20540 (b) 0 (b + 1)]), (112, valO [.dat (.int .i64 12), .dat (.int .i64 0), .dat mt, V.U.own 31080 (c) 0 (c + 1), V.U.own 31040 (c) 0 (c + 1)]), (144, xO (V.U.own 10048 (a) 0 (a + 1))), (10048, rowX (a) xs), (20540, rowI (b) vs), (20580, rowL n (b) vs), (31040, rowI (c) ws), (31080, rowL n (c) ws), (40024, valO [.dat (.int .i64 3), .dat (nI n), .dat mt, .dat .nil, .dat .nil])], 41000⟩ .normal ⟨tD h k n i (.dat (.bool bo)) (.ptr 40024 0 0), [(104, valO [.dat (.int .i64 12), .dat (.int .i64 0), .dat mt, V.U.own 20580 (b) 0 (b + 1), V.U.own 20540 (b) 0 (b + 1)]), (112, valO [.dat (.int .i64 12), .dat (.int .i64 0), .dat mt, V.U.own 31080 (c + 1) 0 (c + 1 + 1), V.U.own 31040 (c + 1) 0 (c + 1 + 1)]), (144, xO (V.U.own 10048 (a) 0 (a + 1))), (10048, rowX (a) xs), (20540, rowI (b) vs), (20580, rowL n (b) vs), (31040, rowI (c + 1) (ws ++ [z])), (31080, rowL n (c + 1) (ws ++ [z])), (40024, valO [.dat (.int .i64 3), .dat (nI n), .dat mt, .dat .nil, .dat .nil])], 42000⟩ := by
  rw [ed17]
  apply V.Run.stepsTL (goodE _) regs follows (keep := kD) (ids := [104, 112, 144, 10048, 20540, 20580, 31040, 31080, 40024]) (nx := 42000) (by rw [← ed17]; exact regsDl.2.2.2.1.2.1.2.2.2.1)
  · apply V.StepsT.auto; kernel_rfl; kernel_rfl; kernel_rfl; kernel_rfl
    apply V.StepsT.auto; kernel_rfl; kernel_rfl; kernel_rfl; kernel_rfl
    apply V.StepsT.auto; kernel_rfl; kernel_rfl; kernel_rfl; kernel_rfl
    apply V.StepsT.op; kernel_rfl; kernel_rfl; kernel_rfl; exact ((V.st_ari (op := .sub) (x := .tmp 82) (y := .const (.int .i64 3)) (k := .i64) (m := (i : Int)) (n := 3) (r := z) (by kernel_rfl) (by kernel_rfl) (by kernel_rfl) (by simp only [V.ariI, V.wr_i64, Option.some.injEq]; omega)))
    apply V.StepsT.auto; kernel_rfl; kernel_rfl; kernel_rfl; kernel_rfl
    apply V.StepsT.op; kernel_rfl; kernel_rfl; kernel_rfl; exact ((Eq.trans (b := V.opAppend Try.prog (V.getO [(104, valO [.dat (.int .i64 12), .dat (.int .i64 0), .dat mt, V.U.own 20580 (b) 0 (b + 1), V.U.own 20540 (b) 0 (b + 1)]), (112, valO [.dat (.int .i64 12), .dat (.int .i64 0), .dat mt, V.U.own 31080 (c) 0 (c + 1), V.U.own 31040 (c) 0 (c + 1)]), (144, xO (V.U.own 10048 (a) 0 (a + 1))), (10048, rowX (a) xs), (20540, rowI (b) vs), (20580, rowL n (b) vs), (31040, rowI (c) ws), (31080, rowL n (c) ws), (40024, valO [.dat (.int .i64 3), .dat (nI n), .dat mt, .dat .nil, .dat .nil]), (41032, ⟨3, 1, false, 0, false, [nI z].map V.U.dat⟩)]) 41040 26 26 (.own 31040 c 0 (c + 1)) (.own 41032 0 0 1)) (by kernel_rfl) (V.st_appendR (s := 1) (xs := [nI z].map V.U.dat) (m := 1) (rd := [41032]) (ob := rowI c ws) rowIT isRowIT (by kernel_rfl) Nat.one_pos rfl rfl rfl rfl (rowI_len hc c) (by omega))))
    apply V.StepsT.auto; kernel_rfl; kernel_rfl; kernel_rfl; kernel_rfl
    apply V.StepsT.auto; kernel_rfl; kernel_rfl; kernel_rfl; kernel_rfl
    apply V.StepsT.auto; kernel_rfl; kernel_rfl; kernel_rfl; kernel_rfl
    apply V.StepsT.auto; kernel_rfl; kernel_rfl; kernel_rfl; kernel_rfl
    apply V.StepsT.op; kernel_rfl; kernel_rfl; kernel_rfl; exact ((Eq.trans (b := V.opAppend Try.prog (V.getO [(104, valO [.dat (.int .i64 12), .dat (.int .i64 0), .dat mt, V.U.own 20580 (b) 0 (b + 1), V.U.own 20540 (b) 0 (b + 1)]), (112, valO [.dat (.int .i64 12), .dat (.int .i64 0), .dat mt, V.U.own 31080 (c) 0 (c + 1), V.U.own 31040 (c) 0 (c + 1)]), (144, xO (V.U.own 10048 (a) 0 (a + 1))), (10048, rowX (a) xs), (20540, rowI (b) vs), (20580, rowL n (b) vs), (31040, ⟨3, 1, false, c + 1, false, (rowI c ws).cells ++ [nI z].map V.U.dat⟩), (31080, rowL n (c) ws), (40024, valO [.dat (.int .i64 3), .dat (nI n), .dat mt, .dat .nil, .dat .nil]), (41032, ⟨3, 1, false, 0, false, [nI z].map V.U.dat⟩), (41072, ⟨28, 5, true, 0, false, (vnc n).map V.U.dat⟩)]) 41080 25 25 (.own 31080 c 0 (c + 1)) (.own 41072 0 0 1)) (by kernel_rfl) (V.st_appendR (s := 5) (xs := (vnc n).map V.U.dat) (m := 1) (rd := [41072]) (ob := rowL n c ws) rowLT isRowLT (by kernel_rfl) Nat.one_pos rfl rfl rfl rfl (rowL_len hc c) (by omega))))
    apply V.StepsT.auto; kernel_rfl; kernel_rfl; kernel_rfl; kernel_rfl
    apply V.StepsT.auto; kernel_rfl; kernel_rfl; kernel_rfl; kernel_rfl
    apply V.StepsT.auto; kernel_rfl; kernel_rfl; kernel_rfl; kernel_rfl
    apply V.StepsT.auto; kernel_rfl; kernel_rfl; kernel_rfl; kernel_rfl
    exact V.StepsT.done (by kernel_rfl) rfl
  · kernel_rfl
  · rfl
  · exact (V.AllKept.cons (by kernel_rfl) (by kernel_rfl) (V.AllKept.cons (by kernel_rfl) (by kernel_rfl) (V.AllKept.cons (by kernel_rfl) (by kernel_rfl) (V.AllKept.cons (ob := rowX (a) xs) (by kernel_rfl) (congrArg (fun l => List.all l _) (rowX_refs _ _)) (V.AllKept.cons (ob := rowI (b) vs) (by kernel_rfl) (congrArg (fun l => List.all l _) (rowI_refs _ _)) (V.AllKept.cons (ob := rowL n (b) vs) (by kernel_rfl) (congrArg (fun l => List.all l _) (rowL_refs _ _ _)) (V.AllKept.cons (ob := rowI (c + 1) (ws ++ [z])) (Eq.trans (b := some ⟨3, 1, false, c + 1, false, (rowI c ws).cells ++ [nI z].map V.U.dat⟩) (by kernel_rfl) (congrArg some (rowI_more c (c + 1) ws z))) (congrArg (fun l => List.all l _) (rowI_refs _ _)) (V.AllKept.cons (ob := rowL n (c + 1) (ws ++ [z])) (Eq.trans (b := some ⟨28, 5, true, c + 1, false, (rowL n c ws).cells ++ (vnc n).map V.U.dat⟩) (by kernel_rfl) (congrArg some (rowL_more n c (c + 1) ws z))) (congrArg (fun l => List.all l _) (rowL_refs _ _ _)) (V.AllKept.cons (by kernel_rfl) (by kernel_rfl) V.AllKept.nil)))))))))
  · kernel_rfl
  · kernel_rfl
  · kernel_rfl
  · kernel_rfl
theorem dr17_6 (i : Nat) (z : Int) (hz : z = (i : Int) - 3) (hi : i < 1000) (h k : D) (n : Int) (bo : Bool) {xs vs ws : List Int} {a b c : Nat} (hc : ws.length = c + 1) (hC : c < 1000) : V.Run Try.prog d17 ⟨tD h k n i (.dat (.bool bo)) (.ptr 40024 0 0), [(104, valO [.dat (.int .i64 12), .dat (.int .i64 0), .dat mt, V.U.own 10580 (b) 0 (b + 1), V.U.own 10540 (b) 0 (b + 1)]), (112, valO [.dat (.int .i64 12), .dat (.int .i64 0), .dat mt, V.U.own 31080 (c) 0 (c + 1), V.U.own 31040 (c) 0 (c + 1)]), (144, xO (V.U.own 20048 (a) 0 (a + 1))), (20048, rowX (a) xs), (10540, rowI (b) vs), (10580, rowL n (b) vs), (31040, rowI (c) ws), (31080, rowL n (c) ws), (40024, valO [.dat (.int .i64 3), .dat (nI n), .dat mt, .dat .nil, .dat .nil])], 41000⟩ .normal ⟨tD h k n i (.dat (.bool bo)) (.ptr 40024 0 0), [(104, valO [.dat (.int .i64 12), .dat (.int .i64 0), .dat mt, V.U.own 10580 (b) 0 (b + 1), V.U.own 10540 (b) 0 (b + 1)]), (112, valO [.dat (.int .i64 12), .dat (.int .i64 0), .dat mt, V.U.own 31080 (c + 1) 0 (c + 1 + 1), V.U.own 31040 (c + 1) 0 (c + 1 + 1)]), (144, xO (V.U.own 20048 (a) 0 (a + 1))), (20048, rowX (a) xs), (10540, rowI (b) vs), (10580, rowL n (b) vs), (31040, rowI (c + 1) (ws ++ [z])), (31080, rowL n (c + 1) (ws ++ [z])), (40024, valO [.dat (.int .i64 3), .dat (nI n), .dat mt, .dat .nil, .dat .nil])], 42000⟩ := by
  rw [ed17]
  apply V.Run.stepsTL (goodE _) regs follows (keep := kD) (ids := [104, 112, 144, 20048, 10540, 10580, 31040, 31080, 40024]) (nx := 42000) (by rw [← ed17]; exact regsDl.2.2.2.1.2.1.2.2.2.1)
  · apply V.StepsT.auto; kernel_rfl; kernel_rfl; kernel_rfl; kernel_rfl
    apply V.StepsT.auto; kernel_rfl; kernel_rfl; kernel_rfl; kernel_rfl
    apply V.StepsT.auto; kernel_rfl; kernel_rfl; kernel_rfl; kernel_rfl
    apply V.StepsT.op; kernel_rfl; kernel_rfl; kernel_rfl; exact ((V.st_ari (op := .sub) (x := .tmp 82) (y := .const (.int .i64 3)) (k := .i64) (m := (i : Int)) (n := 3) (r := z) (by kernel_rfl) (by kernel_rfl) (by kernel_rfl) (by simp only [V.ariI, V.wr_i64, Option.some.injEq]; omega)))
    apply V.StepsT.auto; kernel_rfl; kernel_rfl; kernel_rfl; kernel_rfl
    apply V.StepsT.op; kernel_rfl; kernel_rfl; kernel_rfl; exact ((Eq.trans (b := V.opAppend Try.prog (V.getO [(104, valO [.dat (.int .i64 12), .dat (.int .i64 0), .dat mt, V.U.own 10580 (b) 0 (b + 1), V.U.own 10540 (b) 0 (b + 1)]), (112, valO [.dat (.int .i64 12), .dat (.int .i64 0), .dat mt, V.U.own 31080 (c) 0 (c + 1), V.U.own 31040 (c) 0 (c + 1)]), (144, xO (V.U.own 20048 (a) 0 (a + 1))), (20048, rowX (a) xs), (10540, rowI (b) vs), (10580, rowL n (b) vs), (31040, rowI (c) ws), (31080, rowL n (c) ws), (40024, valO [.dat (.int .i64 3), .dat (nI n), .dat mt, .dat .nil, .dat .nil]), (41032, ⟨3, 1, false, 0, false, [nI z].map V.U.dat⟩)]) 41040 26 26 (.own 31040 c 0 (c + 1)) (.own 41032 0 0 1)) (by kernel_rfl) (V.st_appendR (s := 1) (xs := [nI z].map V.U.dat) (m := 1) (rd := [41032]) (ob := rowI c ws) rowIT isRowIT (by kernel_rfl) Nat.one_pos rfl rfl rfl rfl (rowI_len hc c) (by omega))))
    apply V.StepsT.auto; kernel_rfl; kernel_rfl; kernel_rfl; kernel_rfl
    apply V.StepsT.auto; kernel_rfl; kernel_rfl; kernel_rfl; kernel_rfl
    apply V.StepsT.auto; kernel_rfl; kernel_rfl; kernel_rfl; kernel_rfl
    apply V.StepsT.auto; kernel_rfl; kernel_rfl; kernel_rfl; kernel_rfl
    apply V.StepsT.op; kernel_rfl; kernel_rfl; kernel_rfl; exact ((Eq.trans (b := V.opAppend Try.prog (V.getO [(104, valO [.dat (.int .i64 12), .dat (.int .i64 0), .dat mt, V.U.own 10580 (b) 0 (b + 1), V.U.own 10540 (b) 0 (b + 1)]), (112, valO [.dat (.int .i64 12), .dat (.int .i64 0), .dat mt, V.U.own 31080 (c) 0 (c + 1), V.U.own 31040 (c) 0 (c + 1)]), (144, xO (V.U.own 20048 (a) 0 (a + 1))), (20048, rowX (a) xs), (10540, rowI (b) vs), (10580, rowL n (b) vs), (31040, ⟨3, 1, false, c + 1, false, (rowI c ws).cells ++ [nI z].map V.U.dat⟩), (31080, rowL n (c) ws), (40024, valO [.dat (.int .i64 3), .dat (nI n), .dat mt, .dat .nil, .dat .nil]), (41032, ⟨3, 1, false, 0, false, [nI z].map V.U.dat⟩), (41072, ⟨28, 5, true, 0, false, (vnc n).map V.U.dat⟩)]) 41080 25 25 (.own 31080 c 0 (c + 1)) (.own 41072 0 0 1)) (by kernel_rfl) (V.st_appendR (s := 5) (xs := (vnc n).map V.U.dat) (m := 1) (rd := [41072]) (ob := rowL n c ws) rowLT isRowLT (by kernel_rfl) Nat.one_pos rfl rfl rfl rfl (rowL_len hc c) (by omega))))
    apply V.StepsT.auto; kernel_rfl; kernel_rfl; kernel_rfl; kernel_rfl
    apply V.StepsT.auto; kernel_rfl; kernel_rfl; kernel_rfl; kernel_rfl
    apply V.StepsT.auto; kernel_rfl; kernel_rfl; kernel_rfl; kernel_rfl
    apply V.StepsT.auto; kernel_rfl; kernel_rfl; kernel_rfl; kernel_rfl
    exact V.StepsT.done (by kernel_rfl) rfl
  · kernel_rfl
  · rfl
  · exact (V.AllKept.cons (by kernel_rfl) (by kernel_rfl) (V.AllKept.cons (by kernel_rfl) (by kernel_rfl) (V.AllKept.cons (by kernel_rfl) (by kernel_rfl) (V.AllKept.cons (ob := rowX (a) xs) (by kernel_rfl) (congrArg (fun l => List.all l _) (rowX_refs _ _)) (V.AllKept.cons (ob := rowI (b) vs) (by kernel_rfl) (congrArg (fun l => List.all l _) (rowI_refs _ _)) (V.AllKept.cons (ob := rowL n (b) vs) (by kernel_rfl) (congrArg (fun l => List.all l _) (rowL_refs _ _ _)) (V.AllKept.cons (ob := rowI (c + 1) (ws ++ [z])) (Eq.trans (b := some ⟨3, 1, false, c + 1, false, (rowI c ws).cells ++ [nI z].map V.U.dat⟩) (by kernel_rfl) (congrArg some (rowI_more c (c + 1) ws z))) (congrArg (fun l => List.all l _) (rowI_refs _ _)) (V.AllKept.cons (ob := rowL n (c + 1) (ws ++ [z])) (Eq.trans (b := some ⟨28, 5, true, c + 1, false, (rowL n c ws).cells ++ (vnc n).map V.U.dat⟩) (by kernel_rfl) (congrArg some (rowL_more n c (c + 1) ws z))) (congrArg (fun l => List.all l _) (rowL_refs _ _ _)) (V.AllKept.cons (by kernel_rfl) (by kernel_rfl) V.AllKept.nil)))))))))
  · kernel_rfl
  · kernel_rfl
  · kernel_rfl
  · kernel_rfl
theorem dr14_0 (i : Nat) (h k : D) {n : Int} (hn : -128 ≤ n ∧ n ≤ 127) (bo : Bool) {xs vs ws : List Int} {a b c : Nat} : V.Run Try.prog d14 ⟨tD h k n i (.dat (.bool bo)) .junk, [(104, valO [.dat (.int .i64 12), .dat (.int .i64 0), .dat mt, V.U.dat .nil, V.U.dat .nil]), (112, valO [.dat (.int .i64 12), .dat (.int .i64 0), .dat mt, V.U.dat .nil, V.U.dat .nil]), (144, xO (V.U.dat .nil))], 10000⟩ .normal ⟨tD h k n i (.dat (.bool bo)) (.ptr 10024 0 0), [(104, valO [.dat (.int .i64 12), .dat (.int .i64 0), .dat mt, V.U.dat .nil, V.U.dat .nil]), (112, valO [.dat (.int .i64 12), .dat (.int .i64 0), .dat mt, V.U.dat .nil, V.U.dat .nil]), (144, xO (V.U.dat .nil)), (10024, valO [.dat (.int .i64 3), .dat (nI n), .dat mt, .dat .nil, .dat .nil])], 10500⟩ := by
  have hw : IntKind.i64.wrap n = n := by rw [V.wr_i64]; omega
  rw [ed14]
  apply V.Run.stepsL (goodE _) regs follows (keep := kD) (ids := [104, 112, 144, 10024]) (nx := 10500) (by rw [← ed14]; exact regsDl.2.2.2.1.2.1.1)
  · apply V.Steps.auto; kernel_rfl; kernel_rfl; kernel_rfl; kernel_rfl
    apply V.Steps.op; kernel_rfl; kernel_rfl; kernel_rfl; exact ((V.st_conv (s := 23) (t := 2) (x := .tmp 63) (k := .i8) (j := .i64) (n := n) (sd := .int .i8) (by kernel_rfl) (by kernel_rfl) (by kernel_rfl) (by kernel_rfl)))
    rw [hw]
    apply V.Steps.auto; kernel_rfl; kernel_rfl; kernel_rfl; kernel_rfl
    apply V.Steps.auto; kernel_rfl; kernel_rfl; kernel_rfl; kernel_rfl
    apply V.Steps.auto; kernel_rfl; kernel_rfl; kernel_rfl; kernel_rfl
    exact V.Steps.done (by kernel_rfl) rfl
  · kernel_rfl
  · exact (V.AllKept.cons (by kernel_rfl) (by kernel_rfl) (V.AllKept.cons (by kernel_rfl) (by kernel_rfl) (V.AllKept.cons (by kernel_rfl) (by kernel_rfl) (V.AllKept.cons (by kernel_rfl) (by kernel_rfl) V.AllKept.nil))))
  · kernel_rfl
  · kernel_rfl
  · kernel_rfl
  · kernel_rfl
theorem dr14_1 (i : Nat) (h k : D) {n : Int} (hn : -128 ≤ n ∧ n ≤ 127) (bo : Bool) {xs vs ws : List Int} {a b c : Nat} : V.Run Try.prog d14 ⟨tD h k n i (.dat (.bool bo)) .junk, [(104, valO [.dat (.int .i64 12), .dat (.int .i64 0), .dat mt, V.U.dat .nil, V.U.dat .nil]), (112, valO [.dat (.int .i64 12), .dat (.int .i64 0), .dat mt, V.U.dat .nil, V.U.dat .nil]), (144, xO (V.U.own 10048 (a) 0 (a + 1))), (10048, rowX (a) xs)], 20000⟩ .normal ⟨tD h k n i (.dat (.bool bo)) (.ptr 20024 0 0), [(104, valO [.dat (.int .i64 12), .dat (.int .i64 0), .dat mt, V.U.dat .nil, V.U.dat .nil]), (112, valO [.dat (.int .i64 12), .dat (.int .i64 0), .dat mt, V.U.dat .nil, V.U.dat .nil]), (144, xO (V.U.own 10048 (a) 0 (a + 1))), (10048, rowX (a) xs), (20024, valO [.dat (.int .i64 3), .dat (nI n), .dat mt, .dat .nil, .dat .nil])], 20500⟩ := by
  have hw : IntKind.i64.wrap n = n := by rw [V.wr_i64]; omega
  rw [ed14]
  apply V.Run.stepsL (goodE _) regs follows (keep := kD) (ids := [104, 112, 144, 10048, 20024]) (nx := 20500) (by rw [← ed14]; exact regsDl.2.2.2.1.2.1.1)
  · apply V.Steps.auto; kernel_rfl; kernel_rfl; kernel_rfl; kernel_rfl
    apply V.Steps.op; kernel_rfl; kernel_rfl; kernel_rfl; exact ((V.st_conv (s := 23) (t := 2) (x := .tmp 63) (k := .i8) (j := .i64) (n := n) (sd := .int .i8) (by kernel_rfl) (by kernel_rfl) (by kernel_rfl) (by kernel_rfl)))
    rw [hw]
    apply V.Steps.auto; kernel_rfl; kernel_rfl; kernel_rfl; kernel_rfl
    apply V.Steps.auto; kernel_rfl; kernel_rfl; kernel_rfl; kernel_rfl
    apply V.Steps.auto; kernel_rfl; kernel_rfl; kernel_rfl; kernel_rfl
    exact V.Steps.done (by kernel_rfl) rfl
  · kernel_rfl
  · exact (V.AllKept.cons (by kernel_rfl) (by kernel_rfl) (V.AllKept.cons (by kernel_rfl) (by kernel_rfl) (V.AllKept.cons (by kernel_rfl) (by kernel_rfl) (V.AllKept.cons (ob := rowX (a) xs) (by kernel_rfl) (congrArg (fun l => List.all l _) (rowX_refs _ _)) (V.AllKept.cons (by kernel_rfl) (by kernel_rfl) V.AllKept.nil)))))
  · kernel_rfl
  · kernel_rfl
  · kernel_rfl
  · kernel_rfl
theorem dr14_2 (i : Nat) (h k : D) {n : Int} (hn : -128 ≤ n ∧ n ≤ 127) (bo : Bool) {xs vs ws : List Int} {a b c : Nat} : V.Run Try.prog d14 ⟨tD h k n i (.dat (.bool bo)) .junk, [(104, valO [.dat (.int .i64 12), .dat (.int .i64 0), .dat mt, V.U.own 10580 (b) 0 (b + 1), V.U.own 10540 (b) 0 (b + 1)]), (112, valO [.dat (.int .i64 12), .dat (.int .i64 0), .dat mt, V.U.dat .nil, V.U.dat .nil]), (144, xO (V.U.dat .nil)), (10540, rowI (b) vs), (10580, rowL n (b) vs)], 20000⟩ .normal ⟨tD h k n i (.dat (.bool bo)) (.ptr 20024 0 0), [(104, valO [.dat (.int .i64 12), .dat (.int .i64 0), .dat mt, V.U.own 10580 (b) 0 (b + 1), V.U.own 10540 (b) 0 (b + 1)]), (112, valO [.dat (.int .i64 12), .dat (.int .i64 0), .dat mt, V.U.dat .nil, V.U.dat .nil]), (144, xO (V.U.dat .nil)), (10540, rowI (b) vs), (10580, rowL n (b) vs), (20024, valO [.dat (.int .i64 3), .dat (nI n), .dat mt, .dat .nil, .dat .nil])], 20500⟩ := by
  have hw : IntKind.i64.wrap n = n := by rw [V.wr_i64]; omega
  rw [ed14]
  apply V.Run.stepsL (goodE _) regs follows (keep := kD) (ids := [104, 112, 144, 10540, 10580, 20024]) (nx := 20500) (by rw [← ed14]; exact regsDl.2.2.2.1.2.1.1)
  · apply V.Steps.auto; kernel_rfl; kernel_rfl; kernel_rfl; kernel_rfl
    apply V.Steps.op; kernel_rfl; kernel_rfl; kernel_rfl; exact ((V.st_conv (s := 23) (t := 2) (x := .tmp 63) (k := .i8) (j := .i64) (n := n) (sd := .int .i8) (by kernel_rfl) (by kernel_rfl) (by kernel_rfl) (by kernel_rfl)))
    rw [hw]
    apply V.Steps.auto; kernel_rfl; kernel_rfl; kernel_rfl; kernel_rfl
    apply V.Steps.auto; kernel_rfl; kernel_rfl; kernel_rfl; kernel_rfl
    apply V.Steps.auto; kernel_rfl; kernel_rfl; kernel_rfl; kernel_rfl
    exact V.Steps.done (by kernel_rfl) rfl
  · kernel_rfl
  · exact (V.AllKept.cons (by kernel_rfl) (by kernel_rfl) (V.AllKept.cons (by kernel_rfl) (by kernel_rfl) (V.AllKept.cons (by kernel_rfl) (by kernel_rfl) (V.AllKept.cons (ob := rowI (b) vs) (by kernel_rfl) (congrArg (fun l => List.all l _) (rowI_refs _ _)) (V.AllKept.cons (ob := rowL n (b) vs) (by kernel_rfl) (congrArg (fun l => List.all l _) (rowL_refs _ _ _)) (V.AllKept.cons (by kernel_rfl) (by kernel_rfl) V.AllKept.nil))))))
  · kernel_rfl
  · kernel_rfl
  · kernel_rfl
  · kernel_rfl
theorem dr14_3 (i : Nat) (h k : D) {n : Int} (hn : -128 ≤ n ∧ n ≤ 127) (bo : Bool) {xs vs ws : List Int} {a b c : Nat} : V.Run Try.prog d14 ⟨tD h k n i (.dat (.bool bo)) .junk, [(104, valO [.dat (.int .i64 12), .dat (.int .i64 0), .dat mt, V.U.own 20580 (b) 0 (b + 1), V.U.own 20540 (b) 0 (b + 1)]), (112, valO [.dat (.int .i64 12), .dat (.int .i64 0), .dat mt, V.U.dat .nil, V.U.dat .nil]), (144, xO (V.U.own 10048 (a) 0 (a + 1))), (10048, rowX (a) xs), (20540, rowI (b) vs), (20580, rowL n (b) vs)], 30000⟩ .normal ⟨tD h k n i (.dat (.bool bo)) (.ptr 30024 0 0), [(104, valO [.dat (.int .i64 12), .dat (.int .i64 0), .dat mt, V.U.own 20580 (b) 0 (b + 1), V.U.own 20540 (b) 0 (b + 1)]), (112, valO [.dat (.int .i64 12), .dat (.int .i64 0), .dat mt, V.U.dat .nil, V.U.dat .nil]), (144, xO (V.U.own 10048 (a) 0 (a + 1))), (10048, rowX (a) xs), (20540, rowI (b) vs), (20580, rowL n (b) vs), (30024, valO [.dat (.int .i64 3), .dat (nI n), .dat mt, .dat .nil, .dat .nil])], 30500⟩ := by
  have hw : IntKind.i64.wrap n = n := by rw [V.wr_i64]; omega
  rw [ed14]
  apply V.Run.stepsL (goodE _) regs follows (keep := kD) (ids := [104, 112, 144, 10048, 20540, 20580, 30024]) (nx := 30500) (by rw [← ed14]; exact regsDl.2.2.2.1.2.1.1)
  · apply V.Steps.auto; kernel_rfl; kernel_rfl; kernel_rfl; kernel_rfl
    apply V.Steps.op; kernel_rfl; kernel_rfl; kernel_rfl; exact ((V.st_conv (s := 23) (t := 2) (x := .tmp 63) (k := .i8) (j := .i64) (n := n) (sd := .int .i8) (by kernel_rfl) (by kernel_rfl) (by kernel_rfl) (by kernel_rfl)))
    rw [hw]
    apply V.Steps.auto; kernel_rfl; kernel_rfl; kernel_rfl; kernel_rfl
    apply V.Steps.auto; kernel_rfl; kernel_rfl; kernel_rfl; kernel_rfl
    apply V.Steps.auto; kernel_rfl; kernel_rfl; kernel_rfl; kernel_rfl
    exact V.Steps.done (by kernel_rfl) rfl
  · kernel_rfl
  · exact (V.AllKept.cons (by kernel_rfl) (by kernel_rfl) (V.AllKept.cons (by kernel_rfl) (by kernel_rfl) (V.AllKept.cons (by kernel_rfl) (by kernel_rfl) (V.AllKept.cons (ob := rowX (a) xs) (by kernel_rfl) (congrArg (fun l => List.all l _) (rowX_refs _ _)) (V.AllKept.cons (ob := rowI (b) vs) (by kernel_rfl) (congrArg (fun l => List.all l _) (rowI_refs _ _)) (V.AllKept.cons (ob := rowL n (b) vs) (by kernel_rfl) (congrArg (fun l => List.all l _) (rowL_refs _ _ _)) (V.AllKept.cons (by kernel_rfl) (by kernel_rfl) V.AllKept.nil)))))))
  · kernel_rfl
  · kernel_rfl
  · kernel_rfl
  · kernel_rfl
theorem dr14_4 (i : Nat) (h k : D) {n : Int} (hn : -128 ≤ n ∧ n ≤ 127) (bo : Bool) {xs vs ws : List Int} {a b c : Nat} : V.Run Try.prog d14 ⟨tD h k n i (.dat (.bool bo)) .junk, [(104, valO [.dat (.int .i64 12), .dat (.int .i64 0), .dat mt, V.U.own 10580 (b) 0 (b + 1), V.U.own 10540 (b) 0 (b + 1)]), (112, valO [.dat (.int .i64 12), .dat (.int .i64 0), .dat mt, V.U.dat .nil, V.U.dat .nil]), (144, xO (V.U.own 20048 (a) 0 (a + 1))), (20048, rowX (a) xs), (10540, rowI (b) vs), (10580, rowL n (b) vs)], 30000⟩ .normal ⟨tD h k n i (.dat (.bool bo)) (.ptr 30024 0 0), [(104, valO [.dat (.int .i64 12), .dat (.int .i64 0), .dat mt, V.U.own 10580 (b) 0 (b + 1), V.U.own 10540 (b) 0 (b + 1)]), (112, valO [.dat (.int .i64 12), .dat (.int .i64 0), .dat mt, V.U.dat .nil, V.U.dat .nil]), (144, xO (V.U.own 20048 (a) 0 (a + 1))), (20048, rowX (a) xs), (10540, rowI (b) vs), (10580, rowL n (b) vs), (30024, valO [.dat (.int .i64 3), .dat (nI n), .dat mt, .dat .nil, .dat .nil])], 30500⟩ := by
  have hw : IntKind.i64.wrap n = n := by rw [V.wr_i64]; omega
  rw [ed14]
  apply V.Run.stepsL (goodE _) regs follows (keep := kD) (ids := [104, 112, 144, 20048, 10540, 10580, 30024]) (nx := 30500) (by rw [← ed14]; exact regsDl.2.2.2.1.2.1.1)
  · apply V.Steps.auto; kernel_rfl; kernel_rfl; kernel_rfl; kernel_rfl
    apply V.Steps.op; kernel_rfl; kernel_rfl; kernel_rfl; exact ((V.st_conv (s := 23) (t := 2) (x := .tmp 63) (k := .i8) (j := .i64) (n := n) (sd := .int .i8) (by kernel_rfl) (by kernel_rfl) (by kernel_rfl) (by kernel_rfl)))
    rw [hw]
    apply V.Steps.auto; kernel_rfl; kernel_rfl; kernel_rfl; kernel_rfl
    apply V.Steps.auto; kernel_rfl; kernel_rfl; kernel_rfl; kernel_rfl
    apply V.Steps.auto; kernel_rfl; kernel_rfl; kernel_rfl; kernel_rfl
    exact V.Steps.done (by kernel_rfl) rfl
  · kernel_rfl
  · exact (V.AllKept.cons (by kernel_rfl) (by kernel_rfl) (V.AllKept.cons (by kernel_rfl) (by kernel_rfl) (V.AllKept.cons (by kernel_rfl) (by kernel_rfl) (V.AllKept.cons (ob := rowX (a) xs) (by kernel_rfl) (congrArg (fun l => List.all l _) (rowX_refs _ _)) (V.AllKept.cons (ob := rowI (b) vs) (by kernel_rfl) (congrArg (fun l => List.all l _) (rowI_refs _ _)) (V.AllKept.cons (ob := rowL n (b) vs) (by kernel_rfl) (congrArg (fun l => List.all l _) (rowL_refs _ _ _)) (V.AllKept.cons (by kernel_rfl) (by kernel_rfl) V.AllKept.nil)))))))
  · kernel_rfl
  · kernel_rfl
  · kernel_rfl
  · kernel_rfl
theorem dr14_5 (i : Nat) (h k : D) {n : Int} (hn : -128 ≤ n ∧ n ≤ 127) (bo : Bool) {xs vs ws : List Int} {a b c : Nat} : V.Run Try.prog d14 ⟨tD h k n i (.dat (.bool bo)) .junk, [(104, valO [.dat (.int .i64 12), .dat (.int .i64 0), .dat mt, V.U.own 20580 (b) 0 (b + 1), V.U.own 20540 (b) 0 (b + 1)]), (112, valO [.dat (.int .i64 12), .dat (.int .i64 0), .dat mt, V.U.own 31080 (c) 0 (c + 1), V.U.own 31040 (c) 0 (c + 1)]), (144, xO (V.U.own 10048 (a) 0 (a + 1))), (10048, rowX (a) xs), (20540, rowI (b) vs), (20580, rowL n (b) vs), (31040, rowI (c) ws), (31080, rowL n (c) ws)], 40000⟩ .normal ⟨tD h k n i (.dat (.bool bo)) (.ptr 40024 0 0), [(104, valO [.dat (.int .i64 12), .dat (.int .i64 0), .dat mt, V.U.own 20580 (b) 0 (b + 1), V.U.own 20540 (b) 0 (b + 1)]), (112, valO [.dat (.int .i64 12), .dat (.int .i64 0), .dat mt, V.U.own 31080 (c) 0 (c + 1), V.U.own 31040 (c) 0 (c + 1)]), (144, xO (V.U.own 10048 (a) 0 (a + 1))), (10048, rowX (a) xs), (20540, rowI (b) vs), (20580, rowL n (b) vs), (31040, rowI (c) ws), (31080, rowL n (c) ws), (40024, valO [.dat (.int .i64 3), .dat (nI n), .dat mt, .dat .nil, .dat .nil])], 40500⟩ := by
  have hw : IntKind.i64.wrap n = n := by rw [V.wr_i64]; omega
  rw [ed14]
  apply V.Run.stepsL (goodE _) regs follows (keep := kD) (ids := [104, 112, 144, 10048, 20540, 20580, 31040, 31080, 40024]) (nx := 40500) (by rw [← ed14]; exact regsDl.2.2.2.1.2.1.1)
  · apply V.Steps.auto; kernel_rfl; kernel_rfl; kernel_rfl; kernel_rfl
    apply V.Steps.op; kernel_rfl; kernel_rfl; kernel_rfl; exact ((V.st_conv (s := 23) (t := 2) (x := .tmp 63) (k := .i8) (j := .i64) (n := n) (sd := .int .i8) (by kernel_rfl) (by kernel_rfl) (by kernel_rfl) (by kernel_rfl)))
    rw [hw]
    apply V.Steps.auto; kernel_rfl; kernel_rfl; kernel_rfl; kernel_rfl
    apply V.Steps.auto; kernel_rfl; kernel_rfl; kernel_rfl; kernel_rfl
    apply V.Steps.auto; kernel_rfl; kernel_rfl; kernel_rfl; kernel_rfl
    exact V.Steps.done (by kernel_rfl) rfl
  · kernel_rfl
  · exact (V.AllKept.cons (by kernel_rfl) (by kernel_rfl) (V.AllKept.cons (by kernel_rfl) (by kernel_rfl) (V.AllKept.cons (by kernel_rfl) (by kernel_rfl) (V.AllKept.cons (ob := rowX (a) xs) (by kernel_rfl) (congrArg (fun l => List.all l _) (rowX_refs _ _)) (V.AllKept.cons (ob := rowI (b) vs) (by kernel_rfl) (congrArg (fun l => List.all l _) (rowI_refs _ _)) (V.AllKept.cons (ob := rowL n (b) vs) (by kernel_rfl) (congrArg (fun l => List.all l _) (rowL_refs _ _ _)) (V.AllKept.cons (ob := rowI (c) ws) (by kernel_rfl) (congrArg (fun l => List.all l _) (rowI_refs _ _)) (V.AllKept.cons (ob := rowL n (c) ws) (by kernel_rfl) (congrArg (fun l => List.all l _) (rowL_refs _ _ _)) (V.AllKept.cons (by kernel_rfl) (by kernel_rfl) V.AllKept.nil)))))))))
  · kernel_rfl
  · kernel_rfl
  · kernel_rfl
  · kernel_rfl
theorem dr14_6 (i : Nat) (h k : D) {n : Int} (hn : -128 ≤ n ∧ n ≤ 127) (bo : Bool) {xs vs ws : List Int} {a b c : Nat} : V.Run Try.prog d14 ⟨tD h k n i (.dat (.bool bo)) .junk, [(104, valO [.dat (.int .i64 12), .dat (.int .i64 0), .dat mt, V.U.own 10580 (b) 0 (b + 1), V.U.own 10540 (b) 0 (b + 1)]), (112, valO [.dat (.int .i64 12), .dat (.int .i64 0), .dat mt, V.U.own 31080 (c) 0 (c + 1), V.U.own 31040 (c) 0 (c + 1)]), (144, xO (V.U.own 20048 (a) 0 (a + 1))), (20048, rowX (a) xs), (10540, rowI (b) vs), (10580, rowL n (b) vs), (31040, rowI (c) ws), (31080, rowL n (c) ws)], 40000⟩ .normal ⟨tD h k n i (.dat (.bool bo)) (.ptr 40024 0 0), [(104, valO [.dat (.int .i64 12), .dat (.int .i64 0), .dat mt, V.U.own 10580 (b) 0 (b + 1), V.U.own 10540 (b) 0 (b + 1)]), (112, valO [.dat (.int .i64 12), .dat (.int .i64 0), .dat mt, V.U.own 31080 (c) 0 (c + 1), V.U.own 31040 (c) 0 (c + 1)]), (144, xO (V.U.own 20048 (a) 0 (a + 1))), (20048, rowX (a) xs), (10540, rowI (b) vs), (10580, rowL n (b) vs), (31040, rowI (c) ws), (31080, rowL n (c) ws), (40024, valO [.dat (.int .i64 3), .dat (nI n), .dat mt, .dat .nil, .dat .nil])], 40500⟩ := by
  have hw : IntKind.i64.wrap n = n := by rw [V.wr_i64]; omega
  rw [ed14]
  apply V.Run.stepsL (goodE _) regs follows (keep := kD) (ids := [104, 112, 144, 20048, 10540, 10580, 31040, 31080, 40024]) (nx := 40500) (by rw [← ed14]; exact regsDl.2.2.2.1.2.1.1)
  · apply V.Steps.auto; kernel_rfl; kernel_rfl; kernel_rfl; kernel_rfl
    apply V.Steps.op; kernel_rfl; kernel_rfl; kernel_rfl; exact ((V.st_conv (s := 23) (t := 2) (x := .tmp 63) (k := .i8) (j := .i64) (n := n) (sd := .int .i8) (by kernel_rfl) (by kernel_rfl) (by kernel_rfl) (by kernel_rfl)))
    rw [hw]
    apply V.Steps.auto; kernel_rfl; kernel_rfl; kernel_rfl; kernel_rfl
    apply V.Steps.auto; kernel_rfl; kernel_rfl; kernel_rfl; kernel_rfl
    apply V.Steps.auto; kernel_rfl; kernel_rfl; kernel_rfl; kernel_rfl
    exact V.Steps.done (by kernel_rfl) rfl
  · kernel_rfl
  · exact (V.AllKept.cons (by kernel_rfl) (by kernel_rfl) (V.AllKept.cons (by kernel_rfl) (by kernel_rfl) (V.AllKept.cons (by kernel_rfl) (by kernel_rfl) (V.AllKept.cons (ob := rowX (a) xs) (by kernel_rfl) (congrArg (fun l => List.all l _) (rowX_refs _ _)) (V.AllKept.cons (ob := rowI (b) vs) (by kernel_rfl) (congrArg (fun l => List.all l _) (rowI_refs _ _)) (V.AllKept.cons (ob := rowL n (b) vs) (by kernel_rfl) (congrArg (fun l => List.all l _) (rowL_refs _ _ _)) (V.AllKept.cons (ob := rowI (c) ws) (by kernel_rfl) (congrArg (fun l => List.all l _) (rowI_refs _ _)) (V.AllKept.cons (ob := rowL n (c) ws) (by kernel_rfl) (congrArg (fun l => List.all l _) (rowL_refs _ _ _)) (V.AllKept.cons (by kernel_rfl) (by kernel_rfl) V.AllKept.nil)))))))))
  · kernel_rfl
  · kernel_rfl
  · kernel_rfl
  · kernel_rfl

end Go.Proofs.Ytjofhegodknmaaa.Say
