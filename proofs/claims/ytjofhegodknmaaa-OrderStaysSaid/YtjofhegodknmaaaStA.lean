/- OrderStays: the trees. To: OrderStays: the trees. -/
import Derived.Test.YtjofhegodknmaaaXa
set_option linter.unusedSimpArgs false
set_option linter.unusedVariables false
/-! OrderStays: the trees. -/
namespace Go.Proofs.Ytjofhegodknmaaa.St
open Go Go.RowKit
open W hiding R L
open V (D)
/-- assayer/assayerlaw13.OrderStays -/
def t4 : T :=
  T.call 12 [] 1 <|
  T.op .no [.v 2] <|
  T.ite (.v 3) (T.fin .ret [.c (.bool false)]) <|
  T.op (.pop (.len)) [.v 0] <|
  T.op (.bin .gtr) [.v 4, .c (.int .i64 10)] <|
  T.ite (.v 5) (T.fin .ret [.c (.bool true)]) <|
  T.op (.pop (.len)) [.v 1] <|
  T.op (.bin .gtr) [.v 6, .c (.int .i64 20)] <|
  T.ite (.v 7) (T.fin .ret [.c (.bool true)]) <|
  T.bind (.exit 0) (T.loop [.c (.int .i64 0), .c (.nil)] <|
  T.op (.bin .lss) [.v 8, .v 4] <|
  T.ite (.v 10) (T.op (.pop (.elt 1)) [.v 0, .v 8] <|
  T.op (.pop (.cell 0 1)) [.v 11] <|
  T.op (.conv .i64) [.v 12] <|
  T.op (.pop (.mkAgg)) [.c (.int .i64 3), .v 13, .c (V.txt []), .c (.nil), .c (.nil)] <|
  T.op (.pop (.mkLst 5 true)) [.v 14] <|
  T.op (.pop (.cat 5 80 true)) [.v 9, .v 15] <|
  T.op (.bin .add) [.v 8, .c (.int .i64 1)] <|
  T.fin .normal [.v 17, .v 16]) <|
  T.fin (.exit 0) [.v 9]) 1 <|
  T.op (.pop (.cat 5 80 true)) [.c (.nil), .v 8] <|
  T.bind (.exit 2) (T.loop [.c (.int .i64 0), .v 9] <|
  T.op (.bin .lss) [.v 10, .v 6] <|
  T.ite (.v 12) (T.op (.pop (.len)) [.v 11] <|
  T.op (.bin .gtr) [.v 13, .c (.int .i64 0)] <|
  T.ite (.v 14) (T.op (.pop (.elt 1)) [.v 1, .v 10] <|
  T.op (.pop (.cell 0 1)) [.v 15] <|
  T.op (.conv .i64) [.v 16] <|
  T.op (.bin .rem) [.v 17, .v 13] <|
  T.op (.pop (.slc 5 true false)) [.v 11, .v 18] <|
  T.op (.pop (.slc 5 true true)) [.v 11, .v 18, .v 13] <|
  T.op (.pop (.cat 5 80 true)) [.c (.lst []), .v 20] <|
  T.op (.pop (.slc 5 false true)) [.v 11, .v 18] <|
  T.op (.pop (.slc 5 true true)) [.v 11, .c (.int .i64 0), .v 18] <|
  T.op (.pop (.cat 5 80 true)) [.v 21, .v 23] <|
  T.op (.pop (.elt 5)) [.v 11, .v 18] <|
  T.op (.pop (.cell 0 5)) [.v 25] <|
  T.op (.pop (.cell 1 5)) [.v 25] <|
  T.op (.pop (.cell 2 5)) [.v 25] <|
  T.op (.pop (.cell 3 5)) [.v 25] <|
  T.op (.pop (.cell 4 5)) [.v 25] <|
  T.op (.pop (.mkLst 5 true)) [.v 25] <|
  T.op (.pop (.cat 5 80 true)) [.v 24, .v 31] <|
  T.op (.bin .add) [.v 10, .c (.int .i64 1)] <|
  T.fin .normal [.v 33, .v 32]) <|
  T.fin (.exit 2) [.v 11]) <|
  T.fin (.exit 2) [.v 11]) 1 <|
  T.op (.pop (.mkAgg)) [.c (.int .i64 14), .c (.int .i64 0), .c (V.txt []), .v 8, .c (.nil)] <|
  T.call 13 [.v 11] 2 <|
  T.op (.pop (.cell 0 5)) [.v 12] <|
  T.op (.pop (.cell 1 5)) [.v 12] <|
  T.op (.pop (.cell 2 5)) [.v 12] <|
  T.op (.pop (.cell 3 5)) [.v 12] <|
  T.op (.pop (.cell 4 5)) [.v 12] <|
  T.op (.pop (.mkAgg)) [.c (.int .i64 14), .c (.int .i64 0), .c (V.txt []), .v 10, .c (.nil)] <|
  T.call 13 [.v 19] 2 <|
  T.op (.pop (.cell 0 5)) [.v 20] <|
  T.op (.pop (.cell 1 5)) [.v 20] <|
  T.op (.pop (.cell 2 5)) [.v 20] <|
  T.op (.pop (.cell 3 5)) [.v 20] <|
  T.op (.pop (.cell 4 5)) [.v 20] <|
  T.call 13 [.v 12] 2 <|
  T.op (.pop (.cell 0 5)) [.v 27] <|
  T.op (.pop (.cell 1 5)) [.v 27] <|
  T.op (.pop (.cell 2 5)) [.v 27] <|
  T.op (.pop (.cell 3 5)) [.v 27] <|
  T.op (.pop (.cell 4 5)) [.v 27] <|
  T.op (.bin .neq) [.v 13, .c (.int .i64 0)] <|
  T.ite (.v 34) (T.fin .ret [.c (.bool false)]) <|
  T.op (.bin .neq) [.v 21, .c (.int .i64 0)] <|
  T.ite (.v 35) (T.fin .ret [.c (.bool false)]) <|
  T.op (.bin .neq) [.v 28, .c (.int .i64 0)] <|
  T.ite (.v 36) (T.fin .ret [.c (.bool false)]) <|
  T.call 11 [.v 12, .v 20] 1 <|
  T.op .no [.v 37] <|
  T.ite (.v 38) (T.fin .ret [.c (.bool false)]) <|
  T.call 11 [.v 12, .v 27] 1 <|
  T.op .no [.v 39] <|
  T.ite (.v 40) (T.fin .ret [.c (.bool false)]) <|
  T.call 14 [.v 12] 1 <|
  T.op .no [.v 41] <|
  T.ite (.v 42) (T.fin .ret [.c (.bool false)]) <|
  T.bind (.exit 4) (T.loop [.c (.int .i64 1)] <|
  T.op (.pop (.len)) [.v 17] <|
  T.op (.bin .lss) [.v 43, .v 44] <|
  T.ite (.v 45) (T.op (.bin .sub) [.v 43, .c (.int .i64 1)] <|
  T.op (.pop (.elt 5)) [.v 17, .v 46] <|
  T.op (.pop (.cell 1 5)) [.v 47] <|
  T.op (.pop (.elt 5)) [.v 17, .v 43] <|
  T.op (.pop (.cell 1 5)) [.v 49] <|
  T.op (.bin .geq) [.v 48, .v 50] <|
  T.ite (.v 51) (T.fin .ret [.c (.bool false)]) <|
  T.op (.bin .add) [.v 43, .c (.int .i64 1)] <|
  T.fin .normal [.v 52]) <|
  T.fin (.exit 4) []) 0 <|
  T.bind .normal (T.op (.bin .eql) [.v 4, .c (.int .i64 0)] <|
  T.ite (.v 43) (T.fin .normal [.c (.bool true)]) <|
  T.op (.pop (.len)) [.v 17] <|
  T.op (.bin .gtr) [.v 44, .c (.int .i64 0)] <|
  T.fin .normal [.v 45]) 1 <|
  T.fin .ret [.v 43]
/-- assayer/assayerlaw13.begun -/
def t12 : T :=
  T.call 13 [.c (.agg [.int .i64 14, .int .i64 0, V.txt [], .lst [.agg [.int .i64 8, .int .i64 2, V.txt [], .nil, .nil], .agg [.int .i64 8, .int .i64 1, V.txt [], .nil, .nil], .agg [.int .i64 8, .int .i64 2, V.txt [], .nil, .nil]], .nil])] 2 <|
  T.op (.pop (.cell 0 5)) [.v 0] <|
  T.op (.pop (.cell 1 5)) [.v 0] <|
  T.op (.pop (.cell 2 5)) [.v 0] <|
  T.op (.pop (.cell 3 5)) [.v 0] <|
  T.op (.pop (.cell 4 5)) [.v 0] <|
  T.bind .normal (T.call 29 [.c (.agg [.int .i64 8, .int .i64 1, V.txt [], .nil, .nil]), .c (.agg [.int .i64 8, .int .i64 2, V.txt [], .nil, .nil])] 1 <|
  T.op (.bin .eql) [.v 7, .c (.int .i64 (-1))] <|
  T.ite (.v 8) (T.op (.bin .eql) [.v 1, .c (.int .i64 0)] <|
  T.ite (.v 9) (T.op (.pop (.len)) [.v 5] <|
  T.op (.bin .eql) [.v 10, .c (.int .i64 2)] <|
  T.ite (.v 11) (T.op (.pop (.elt 5)) [.v 5, .c (.int .i64 0)] <|
  T.op (.pop (.cell 1 5)) [.v 12] <|
  T.op (.bin .eql) [.v 13, .c (.int .i64 1)] <|
  T.ite (.v 14) (T.call 14 [.v 0] 1 <|
  T.ite (.v 15) (T.call 30 [.c (.agg [.int .i64 8, .int .i64 1, V.txt [], .nil, .nil])] 1 <|
  T.op (.pop (.cell 1 5)) [.v 16] <|
  T.op (.bin .eql) [.v 17, .c (.int .i64 1)] <|
  T.fin .normal [.v 18]) <|
  T.fin .normal [.c (.bool false)]) <|
  T.fin .normal [.c (.bool false)]) <|
  T.fin .normal [.c (.bool false)]) <|
  T.fin .normal [.c (.bool false)]) <|
  T.fin .normal [.c (.bool false)]) 1 <|
  T.fin .ret [.v 7]
/-- assayer/order.Normal -/
def t13 : T :=
  T.op (.pop (.cell 0 5)) [.v 0] <|
  T.op (.pop (.cell 1 5)) [.v 0] <|
  T.op (.pop (.cell 2 5)) [.v 0] <|
  T.op (.pop (.cell 3 5)) [.v 0] <|
  T.op (.pop (.cell 4 5)) [.v 0] <|
  T.call 31 [.v 0] 2 <|
  T.op (.pop (.cell 0 5)) [.v 6] <|
  T.op (.pop (.cell 1 5)) [.v 6] <|
  T.op (.pop (.cell 2 5)) [.v 6] <|
  T.op (.pop (.cell 3 5)) [.v 6] <|
  T.op (.pop (.cell 4 5)) [.v 6] <|
  T.fin .ret [.v 6, .v 7]
/-- assayer/order.within -/
def t31 : T :=
  T.op (.pop (.cell 0 5)) [.v 0] <|
  T.op (.pop (.cell 1 5)) [.v 0] <|
  T.op (.pop (.cell 2 5)) [.v 0] <|
  T.op (.pop (.cell 3 5)) [.v 0] <|
  T.op (.pop (.cell 4 5)) [.v 0] <|
  T.call 67 [.v 1] 1 <|
  T.op .no [.v 6] <|
  T.ite (.v 7) (T.call 30 [.v 0] 1 <|
  T.op (.pop (.cell 0 5)) [.v 8] <|
  T.op (.pop (.cell 1 5)) [.v 8] <|
  T.op (.pop (.cell 2 5)) [.v 8] <|
  T.op (.pop (.cell 3 5)) [.v 8] <|
  T.op (.pop (.cell 4 5)) [.v 8] <|
  T.fin .ret [.v 8, .c (.int .i64 0)]) <|
  T.call 66 [.v 5] 1 <|
  T.op (.pop (.cell 0 1)) [.v 8] <|
  T.op (.pop (.len)) [.v 4] <|
  T.bind (.exit 0) (T.loop [.c (.int .i64 0), .c (.nil)] <|
  T.op (.bin .lss) [.v 11, .v 10] <|
  T.ite (.v 13) (T.op (.pop (.elt 5)) [.v 4, .v 11] <|
  T.op (.pop (.cell 0 5)) [.v 14] <|
  T.op (.pop (.cell 1 5)) [.v 14] <|
  T.op (.pop (.cell 2 5)) [.v 14] <|
  T.op (.pop (.cell 3 5)) [.v 14] <|
  T.op (.pop (.cell 4 5)) [.v 14] <|
  T.call 31 [.v 14] 2 <|
  T.op (.pop (.cell 0 5)) [.v 20] <|
  T.op (.pop (.cell 1 5)) [.v 20] <|
  T.op (.pop (.cell 2 5)) [.v 20] <|
  T.op (.pop (.cell 3 5)) [.v 20] <|
  T.op (.pop (.cell 4 5)) [.v 20] <|
  T.op (.bin .neq) [.v 21, .c (.int .i64 0)] <|
  T.ite (.v 27) (T.fin .ret [.c (.agg [.int .i64 0, .int .i64 0, V.txt [], .nil, .nil]), .v 21]) <|
  T.op (.pop (.mkLst 5 true)) [.v 20] <|
  T.op (.pop (.cat 5 80 true)) [.v 12, .v 28] <|
  T.op (.bin .add) [.v 11, .c (.int .i64 1)] <|
  T.fin .normal [.v 30, .v 29]) <|
  T.fin (.exit 0) [.v 12]) 1 <|
  T.bind (.exit 2) (T.op (.bin .eql) [.v 1, .c (.int .i64 14)] <|
  T.ite (.v 12) (T.call 68 [.v 11, .c (.fn 29 [])] 1 <|
  T.call 69 [.v 13, .c (.fn 70 [])] 2 <|
  T.op (.pop (.cell 0 1)) [.v 14] <|
  T.fin (.exit 2) [.v 16]) <|
  T.op (.bin .eql) [.v 1, .c (.int .i64 13)] <|
  T.ite (.v 13) (T.call 71 [.v 11] 2 <|
  T.op (.bin .neq) [.v 15, .c (.int .i64 0)] <|
  T.ite (.v 16) (T.fin .ret [.c (.agg [.int .i64 0, .int .i64 0, V.txt [], .nil, .nil]), .v 15]) <|
  T.op (.pop (.cell 0 1)) [.v 14] <|
  T.fin (.exit 2) [.v 17]) <|
  T.op (.bin .eql) [.v 1, .c (.int .i64 12)] <|
  T.ite (.v 14) (T.op (.pop (.mkAgg)) [.v 1, .v 2, .v 3, .v 11, .v 9] <|
  T.call 72 [.v 15] 2 <|
  T.op (.pop (.cell 0 5)) [.v 16] <|
  T.op (.pop (.cell 1 5)) [.v 16] <|
  T.op (.pop (.cell 2 5)) [.v 16] <|
  T.op (.pop (.cell 3 5)) [.v 16] <|
  T.op (.pop (.cell 4 5)) [.v 16] <|
  T.fin .ret [.v 16, .v 17]) <|
  T.fin (.exit 2) [.v 11]) 1 <|
  T.op (.pop (.mkAgg)) [.v 1, .v 2, .v 3, .v 12, .v 9] <|
  T.fin .ret [.v 13, .c (.int .i64 0)]
/-- assayer/order.holds -/
def t67 : T :=
  T.bind .normal (T.op (.bin .eql) [.v 0, .c (.int .i64 15)] <|
  T.ite (.v 1) (T.fin .normal [.c (.bool true)]) <|
  T.op (.bin .eql) [.v 0, .c (.int .i64 14)] <|
  T.ite (.v 2) (T.fin .normal [.c (.bool true)]) <|
  T.op (.bin .eql) [.v 0, .c (.int .i64 13)] <|
  T.ite (.v 3) (T.fin .normal [.c (.bool true)]) <|
  T.op (.bin .eql) [.v 0, .c (.int .i64 12)] <|
  T.fin .normal [.v 4]) 1 <|
  T.fin .ret [.v 1]
/-- assayer/order.Copy -/
def t30 : T :=
  T.op (.pop (.cell 0 5)) [.v 0] <|
  T.op (.pop (.cell 1 5)) [.v 0] <|
  T.op (.pop (.cell 2 5)) [.v 0] <|
  T.op (.pop (.cell 3 5)) [.v 0] <|
  T.op (.pop (.cell 4 5)) [.v 0] <|
  T.call 66 [.v 5] 1 <|
  T.op (.pop (.cell 0 1)) [.v 6] <|
  T.op (.pop (.len)) [.v 4] <|
  T.bind (.exit 0) (T.loop [.c (.int .i64 0), .c (.nil)] <|
  T.op (.bin .lss) [.v 9, .v 8] <|
  T.ite (.v 11) (T.op (.pop (.elt 5)) [.v 4, .v 9] <|
  T.op (.pop (.cell 0 5)) [.v 12] <|
  T.op (.pop (.cell 1 5)) [.v 12] <|
  T.op (.pop (.cell 2 5)) [.v 12] <|
  T.op (.pop (.cell 3 5)) [.v 12] <|
  T.op (.pop (.cell 4 5)) [.v 12] <|
  T.call 30 [.v 12] 1 <|
  T.op (.pop (.cell 0 5)) [.v 18] <|
  T.op (.pop (.cell 1 5)) [.v 18] <|
  T.op (.pop (.cell 2 5)) [.v 18] <|
  T.op (.pop (.cell 3 5)) [.v 18] <|
  T.op (.pop (.cell 4 5)) [.v 18] <|
  T.op (.pop (.mkLst 5 true)) [.v 18] <|
  T.op (.pop (.cat 5 80 true)) [.v 10, .v 24] <|
  T.op (.bin .add) [.v 9, .c (.int .i64 1)] <|
  T.fin .normal [.v 26, .v 25]) <|
  T.fin (.exit 0) [.v 10]) 1 <|
  T.op (.pop (.mkAgg)) [.v 1, .v 2, .v 3, .v 9, .v 7] <|
  T.fin .ret [.v 10]
/-- slices.Clone[[]int,int] -/
def t66 : T :=
  T.op (.isNil true false) [.v 0] <|
  T.ite (.v 1) (T.fin .ret [.c (.nil)]) <|
  T.op (.pop (.cat 1 8 false)) [.c (.lst []), .v 0] <|
  T.fin .ret [.v 2]
/-- slices.SortStableFunc[[]assayer/api.Value,assayer/api.Value] -/
def t68 : T :=
  T.op (.pop (.len)) [.v 0] <|
  T.call 98 [.v 0, .v 2, .v 1] 1 <|
  T.fin .ret [.v 3]
/-- slices.stableCmpFunc[assayer/api.Value] -/
def t98 : T :=
  T.bind (.exit 0) (T.loop [.c (.int .i64 0), .c (.int .i64 20), .v 0] <|
  T.op (.bin .leq) [.v 4, .v 1] <|
  T.ite (.v 6) (T.call 120 [.v 5, .v 3, .v 4, .v 2] 1 <|
  T.op (.bin .add) [.v 4, .c (.int .i64 20)] <|
  T.fin .normal [.v 4, .v 8, .v 7]) <|
  T.fin (.exit 0) [.v 3, .v 5]) 2 <|
  T.call 120 [.v 4, .v 3, .v 1, .v 2] 1 <|
  T.bind (.exit 2) (T.loop [.c (.int .i64 20), .v 5] <|
  T.op (.bin .lss) [.v 6, .v 1] <|
  T.ite (.v 8) (T.op (.bin .mul) [.c (.int .i64 2), .v 6] <|
  T.bind (.exit 4) (T.loop [.c (.int .i64 0), .v 9, .v 7] <|
  T.op (.bin .leq) [.v 11, .v 1] <|
  T.ite (.v 13) (T.op (.bin .add) [.v 10, .v 6] <|
  T.call 121 [.v 12, .v 10, .v 14, .v 11, .v 2] 1 <|
  T.op (.bin .mul) [.c (.int .i64 2), .v 6] <|
  T.op (.bin .add) [.v 11, .v 16] <|
  T.fin .normal [.v 11, .v 17, .v 15]) <|
  T.fin (.exit 4) [.v 10, .v 12]) 2 <|
  T.bind .normal (T.op (.bin .add) [.v 10, .v 6] <|
  T.op (.bin .lss) [.v 12, .v 1] <|
  T.ite (.v 13) (T.call 121 [.v 11, .v 10, .v 12, .v 1, .v 2] 1 <|
  T.fin .normal [.v 14]) <|
  T.fin .normal [.v 11]) 1 <|
  T.op (.bin .mul) [.v 6, .c (.int .i64 2)] <|
  T.fin .normal [.v 13, .v 12]) <|
  T.fin (.exit 2) [.v 7]) 1 <|
  T.fin .ret [.v 6]
/-- slices.insertionSortCmpFunc[assayer/api.Value] -/
def t120 : T :=
  T.op (.bin .add) [.v 1, .c (.int .i64 1)] <|
  T.bind (.exit 0) (T.loop [.v 4, .v 0] <|
  T.op (.bin .lss) [.v 5, .v 2] <|
  T.ite (.v 7) (T.bind (.exit 2) (T.loop [.v 5, .v 6] <|
  T.op (.bin .gtr) [.v 8, .v 1] <|
  T.ite (.v 10) (T.op (.pop (.elt 5)) [.v 9, .v 8] <|
  T.op (.bin .sub) [.v 8, .c (.int .i64 1)] <|
  T.op (.pop (.elt 5)) [.v 9, .v 12] <|
  T.callv [29, 70] (.v 3) [.v 11, .v 13] 1 <|
  T.op (.bin .lss) [.v 14, .c (.int .i64 0)] <|
  T.ite (.v 15) (T.op (.bin .sub) [.v 8, .c (.int .i64 1)] <|
  T.op (.bin .sub) [.v 8, .c (.int .i64 1)] <|
  T.op (.pop (.elt 5)) [.v 9, .v 17] <|
  T.op (.pop (.cell 0 5)) [.v 18] <|
  T.op (.pop (.cell 1 5)) [.v 18] <|
  T.op (.pop (.cell 2 5)) [.v 18] <|
  T.op (.pop (.cell 3 5)) [.v 18] <|
  T.op (.pop (.cell 4 5)) [.v 18] <|
  T.op (.pop (.upd 5 0 true)) [.v 9, .v 8, .v 19, .v 20, .v 21, .v 22, .v 23] <|
  T.op (.pop (.elt 5)) [.v 24, .v 16] <|
  T.op (.pop (.cell 0 5)) [.v 11] <|
  T.op (.pop (.cell 1 5)) [.v 11] <|
  T.op (.pop (.cell 2 5)) [.v 11] <|
  T.op (.pop (.cell 3 5)) [.v 11] <|
  T.op (.pop (.cell 4 5)) [.v 11] <|
  T.op (.pop (.upd 5 0 true)) [.v 24, .v 16, .v 26, .v 27, .v 28, .v 29, .v 30] <|
  T.op (.bin .sub) [.v 8, .c (.int .i64 1)] <|
  T.fin .normal [.v 32, .v 31]) <|
  T.fin (.exit 2) [.v 9]) <|
  T.fin (.exit 2) [.v 9]) 1 <|
  T.op (.bin .add) [.v 5, .c (.int .i64 1)] <|
  T.fin .normal [.v 9, .v 8]) <|
  T.fin (.exit 0) [.v 6]) 1 <|
  T.fin .ret [.v 5]
/-- slices.symMergeCmpFunc[assayer/api.Value] -/
def t121 : T :=
  T.op (.bin .sub) [.v 2, .v 1] <|
  T.op (.bin .eql) [.v 5, .c (.int .i64 1)] <|
  T.ite (.v 6) (T.bind (.exit 0) (T.loop [.v 2, .v 3] <|
  T.op (.bin .lss) [.v 7, .v 8] <|
  T.ite (.v 9) (T.bind (.exit 1) (T.op (.bin .add) [.v 7, .v 8] <|
  T.op (.conv .u64) [.v 10] <|
  T.op (.bin .shr) [.v 11, .c (.int .u64 1)] <|
  T.op (.conv .i64) [.v 12] <|
  T.op (.pop (.elt 5)) [.v 0, .v 13] <|
  T.op (.pop (.elt 5)) [.v 0, .v 1] <|
  T.callv [29, 70] (.v 4) [.v 14, .v 15] 1 <|
  T.op (.bin .lss) [.v 16, .c (.int .i64 0)] <|
  T.ite (.v 17) (T.op (.bin .add) [.v 13, .c (.int .i64 1)] <|
  T.fin (.exit 1) [.v 18, .v 8]) <|
  T.fin (.exit 1) [.v 7, .v 13]) 2 <|
  T.fin .normal [.v 10, .v 11]) <|
  T.fin (.exit 0) [.v 7]) 1 <|
  T.bind (.exit 2) (T.loop [.v 1, .v 0] <|
  T.op (.bin .sub) [.v 7, .c (.int .i64 1)] <|
  T.op (.bin .lss) [.v 8, .v 10] <|
  T.ite (.v 11) (T.op (.bin .add) [.v 8, .c (.int .i64 1)] <|
  T.op (.bin .add) [.v 8, .c (.int .i64 1)] <|
  T.op (.pop (.elt 5)) [.v 9, .v 13] <|
  T.op (.pop (.elt 5)) [.v 9, .v 8] <|
  T.op (.pop (.cell 0 5)) [.v 14] <|
  T.op (.pop (.cell 1 5)) [.v 14] <|
  T.op (.pop (.cell 2 5)) [.v 14] <|
  T.op (.pop (.cell 3 5)) [.v 14] <|
  T.op (.pop (.cell 4 5)) [.v 14] <|
  T.op (.pop (.upd 5 0 true)) [.v 9, .v 8, .v 16, .v 17, .v 18, .v 19, .v 20] <|
  T.op (.pop (.elt 5)) [.v 21, .v 12] <|
  T.op (.pop (.cell 0 5)) [.v 15] <|
  T.op (.pop (.cell 1 5)) [.v 15] <|
  T.op (.pop (.cell 2 5)) [.v 15] <|
  T.op (.pop (.cell 3 5)) [.v 15] <|
  T.op (.pop (.cell 4 5)) [.v 15] <|
  T.op (.pop (.upd 5 0 true)) [.v 21, .v 12, .v 23, .v 24, .v 25, .v 26, .v 27] <|
  T.op (.bin .add) [.v 8, .c (.int .i64 1)] <|
  T.fin .normal [.v 29, .v 28]) <|
  T.fin (.exit 2) [.v 9]) 1 <|
  T.fin .ret [.v 8]) <|
  T.op (.bin .sub) [.v 3, .v 2] <|
  T.op (.bin .eql) [.v 7, .c (.int .i64 1)] <|
  T.ite (.v 8) (T.bind (.exit 4) (T.loop [.v 1, .v 2] <|
  T.op (.bin .lss) [.v 9, .v 10] <|
  T.ite (.v 11) (T.bind (.exit 5) (T.op (.bin .add) [.v 9, .v 10] <|
  T.op (.conv .u64) [.v 12] <|
  T.op (.bin .shr) [.v 13, .c (.int .u64 1)] <|
  T.op (.conv .i64) [.v 14] <|
  T.op (.pop (.elt 5)) [.v 0, .v 2] <|
  T.op (.pop (.elt 5)) [.v 0, .v 15] <|
  T.callv [29, 70] (.v 4) [.v 16, .v 17] 1 <|
  T.op (.bin .lss) [.v 18, .c (.int .i64 0)] <|
  T.op .no [.v 19] <|
  T.ite (.v 20) (T.op (.bin .add) [.v 15, .c (.int .i64 1)] <|
  T.fin (.exit 5) [.v 21, .v 10]) <|
  T.fin (.exit 5) [.v 9, .v 15]) 2 <|
  T.fin .normal [.v 12, .v 13]) <|
  T.fin (.exit 4) [.v 9]) 1 <|
  T.bind (.exit 6) (T.loop [.v 2, .v 0] <|
  T.op (.bin .gtr) [.v 10, .v 9] <|
  T.ite (.v 12) (T.op (.bin .sub) [.v 10, .c (.int .i64 1)] <|
  T.op (.bin .sub) [.v 10, .c (.int .i64 1)] <|
  T.op (.pop (.elt 5)) [.v 11, .v 14] <|
  T.op (.pop (.elt 5)) [.v 11, .v 10] <|
  T.op (.pop (.cell 0 5)) [.v 15] <|
  T.op (.pop (.cell 1 5)) [.v 15] <|
  T.op (.pop (.cell 2 5)) [.v 15] <|
  T.op (.pop (.cell 3 5)) [.v 15] <|
  T.op (.pop (.cell 4 5)) [.v 15] <|
  T.op (.pop (.upd 5 0 true)) [.v 11, .v 10, .v 17, .v 18, .v 19, .v 20, .v 21] <|
  T.op (.pop (.elt 5)) [.v 22, .v 13] <|
  T.op (.pop (.cell 0 5)) [.v 16] <|
  T.op (.pop (.cell 1 5)) [.v 16] <|
  T.op (.pop (.cell 2 5)) [.v 16] <|
  T.op (.pop (.cell 3 5)) [.v 16] <|
  T.op (.pop (.cell 4 5)) [.v 16] <|
  T.op (.pop (.upd 5 0 true)) [.v 22, .v 13, .v 24, .v 25, .v 26, .v 27, .v 28] <|
  T.op (.bin .sub) [.v 10, .c (.int .i64 1)] <|
  T.fin .normal [.v 30, .v 29]) <|
  T.fin (.exit 6) [.v 11]) 1 <|
  T.fin .ret [.v 10]) <|
  T.op (.bin .add) [.v 1, .v 3] <|
  T.op (.conv .u64) [.v 9] <|
  T.op (.bin .shr) [.v 10, .c (.int .u64 1)] <|
  T.op (.conv .i64) [.v 11] <|
  T.op (.bin .add) [.v 12, .v 2] <|
  T.bind .normal (T.op (.bin .gtr) [.v 2, .v 12] <|
  T.ite (.v 14) (T.op (.bin .sub) [.v 13, .v 3] <|
  T.fin .normal [.v 15, .v 12]) <|
  T.fin .normal [.v 1, .v 2]) 2 <|
  T.op (.bin .sub) [.v 13, .c (.int .i64 1)] <|
  T.bind (.exit 8) (T.loop [.v 14, .v 15] <|
  T.op (.bin .lss) [.v 17, .v 18] <|
  T.ite (.v 19) (T.bind (.exit 9) (T.op (.bin .add) [.v 17, .v 18] <|
  T.op (.conv .u64) [.v 20] <|
  T.op (.bin .shr) [.v 21, .c (.int .u64 1)] <|
  T.op (.conv .i64) [.v 22] <|
  T.op (.bin .sub) [.v 16, .v 23] <|
  T.op (.pop (.elt 5)) [.v 0, .v 24] <|
  T.op (.pop (.elt 5)) [.v 0, .v 23] <|
  T.callv [29, 70] (.v 4) [.v 25, .v 26] 1 <|
  T.op (.bin .lss) [.v 27, .c (.int .i64 0)] <|
  T.op .no [.v 28] <|
  T.ite (.v 29) (T.op (.bin .add) [.v 23, .c (.int .i64 1)] <|
  T.fin (.exit 9) [.v 30, .v 18]) <|
  T.fin (.exit 9) [.v 17, .v 23]) 2 <|
  T.fin .normal [.v 20, .v 21]) <|
  T.fin (.exit 8) [.v 17]) 1 <|
  T.op (.bin .sub) [.v 13, .v 17] <|
  T.bind .normal (T.op (.bin .lss) [.v 17, .v 2] <|
  T.ite (.v 19) (T.op (.bin .lss) [.v 2, .v 18] <|
  T.ite (.v 20) (T.call 130 [.v 0, .v 17, .v 2, .v 18, .v 4] 1 <|
  T.fin .normal [.v 21]) <|
  T.fin .normal [.v 0]) <|
  T.fin .normal [.v 0]) 1 <|
  T.bind .normal (T.op (.bin .lss) [.v 1, .v 17] <|
  T.ite (.v 20) (T.op (.bin .lss) [.v 17, .v 12] <|
  T.ite (.v 21) (T.call 121 [.v 19, .v 1, .v 17, .v 12, .v 4] 1 <|
  T.fin .normal [.v 22]) <|
  T.fin .normal [.v 19]) <|
  T.fin .normal [.v 19]) 1 <|
  T.op (.bin .lss) [.v 12, .v 18] <|
  T.ite (.v 21) (T.op (.bin .lss) [.v 18, .v 3] <|
  T.ite (.v 22) (T.call 121 [.v 20, .v 12, .v 18, .v 3, .v 4] 1 <|
  T.fin .ret [.v 23]) <|
  T.fin .ret [.v 20]) <|
  T.fin .ret [.v 20]
/-- slices.rotateCmpFunc[assayer/api.Value] -/
def t130 : T :=
  T.op (.bin .sub) [.v 2, .v 1] <|
  T.op (.bin .sub) [.v 3, .v 2] <|
  T.bind (.exit 0) (T.loop [.v 5, .v 6, .v 0] <|
  T.op (.bin .neq) [.v 7, .v 8] <|
  T.ite (.v 10) (T.bind (.exit 1) (T.op (.bin .gtr) [.v 7, .v 8] <|
  T.ite (.v 11) (T.op (.bin .sub) [.v 2, .v 7] <|
  T.call 137 [.v 9, .v 12, .v 2, .v 8, .v 4] 1 <|
  T.op (.bin .sub) [.v 7, .v 8] <|
  T.fin (.exit 1) [.v 14, .v 8, .v 13]) <|
  T.op (.bin .sub) [.v 2, .v 7] <|
  T.op (.bin .add) [.v 2, .v 8] <|
  T.op (.bin .sub) [.v 13, .v 7] <|
  T.call 137 [.v 9, .v 12, .v 14, .v 7, .v 4] 1 <|
  T.op (.bin .sub) [.v 8, .v 7] <|
  T.fin (.exit 1) [.v 7, .v 16, .v 15]) 3 <|
  T.fin .normal [.v 11, .v 12, .v 13]) <|
  T.fin (.exit 0) [.v 7, .v 9]) 2 <|
  T.op (.bin .sub) [.v 2, .v 7] <|
  T.call 137 [.v 8, .v 9, .v 2, .v 7, .v 4] 1 <|
  T.fin .ret [.v 10]
/-- slices.swapRangeCmpFunc[assayer/api.Value] -/
def t137 : T :=
  T.bind (.exit 0) (T.loop [.c (.int .i64 0), .v 0] <|
  T.op (.bin .lss) [.v 5, .v 3] <|
  T.ite (.v 7) (T.op (.bin .add) [.v 1, .v 5] <|
  T.op (.bin .add) [.v 2, .v 5] <|
  T.op (.bin .add) [.v 2, .v 5] <|
  T.op (.pop (.elt 5)) [.v 6, .v 10] <|
  T.op (.bin .add) [.v 1, .v 5] <|
  T.op (.pop (.elt 5)) [.v 6, .v 12] <|
  T.op (.pop (.elt 5)) [.v 6, .v 8] <|
  T.op (.pop (.cell 0 5)) [.v 11] <|
  T.op (.pop (.cell 1 5)) [.v 11] <|
  T.op (.pop (.cell 2 5)) [.v 11] <|
  T.op (.pop (.cell 3 5)) [.v 11] <|
  T.op (.pop (.cell 4 5)) [.v 11] <|
  T.op (.pop (.upd 5 0 true)) [.v 6, .v 8, .v 15, .v 16, .v 17, .v 18, .v 19] <|
  T.op (.pop (.elt 5)) [.v 20, .v 9] <|
  T.op (.pop (.cell 0 5)) [.v 13] <|
  T.op (.pop (.cell 1 5)) [.v 13] <|
  T.op (.pop (.cell 2 5)) [.v 13] <|
  T.op (.pop (.cell 3 5)) [.v 13] <|
  T.op (.pop (.cell 4 5)) [.v 13] <|
  T.op (.pop (.upd 5 0 true)) [.v 20, .v 9, .v 22, .v 23, .v 24, .v 25, .v 26] <|
  T.op (.bin .add) [.v 5, .c (.int .i64 1)] <|
  T.fin .normal [.v 28, .v 27]) <|
  T.fin (.exit 0) [.v 6]) 1 <|
  T.fin .ret [.v 5]
/-- assayer/order.Cmp -/
def t29 : T :=
  T.op (.pop (.cell 0 5)) [.v 0] <|
  T.op (.pop (.cell 1 5)) [.v 0] <|
  T.op (.pop (.cell 2 5)) [.v 0] <|
  T.op (.pop (.cell 3 5)) [.v 0] <|
  T.op (.pop (.cell 4 5)) [.v 0] <|
  T.op (.pop (.cell 0 5)) [.v 1] <|
  T.op (.pop (.cell 1 5)) [.v 1] <|
  T.op (.pop (.cell 2 5)) [.v 1] <|
  T.op (.pop (.cell 3 5)) [.v 1] <|
  T.op (.pop (.cell 4 5)) [.v 1] <|
  T.call 60 [.v 2, .v 7] 1 <|
  T.op (.bin .neq) [.v 12, .c (.int .i64 0)] <|
  T.ite (.v 13) (T.fin .ret [.v 12]) <|
  T.bind .normal (T.op (.bin .eql) [.v 2, .c (.int .i64 2)] <|
  T.ite (.v 14) (T.fin .normal [.c (.bool true)]) <|
  T.op (.bin .eql) [.v 2, .c (.int .i64 3)] <|
  T.ite (.v 15) (T.fin .normal [.c (.bool true)]) <|
  T.op (.bin .eql) [.v 2, .c (.int .i64 6)] <|
  T.ite (.v 16) (T.fin .normal [.c (.bool true)]) <|
  T.op (.bin .eql) [.v 2, .c (.int .i64 8)] <|
  T.ite (.v 17) (T.fin .normal [.c (.bool true)]) <|
  T.op (.bin .eql) [.v 2, .c (.int .i64 10)] <|
  T.ite (.v 18) (T.fin .normal [.c (.bool true)]) <|
  T.op (.bin .eql) [.v 2, .c (.int .i64 17)] <|
  T.fin .normal [.v 19]) 1 <|
  T.ite (.v 14) (T.call 61 [.v 3, .v 8] 1 <|
  T.fin .ret [.v 15]) <|
  T.op (.bin .eql) [.v 2, .c (.int .i64 4)] <|
  T.ite (.v 15) (T.op (.conv .u64) [.v 3] <|
  T.op (.conv .u64) [.v 8] <|
  T.call 62 [.v 16, .v 17] 1 <|
  T.fin .ret [.v 18]) <|
  T.bind .normal (T.op (.bin .eql) [.v 2, .c (.int .i64 11)] <|
  T.ite (.v 16) (T.fin .normal [.c (.bool true)]) <|
  T.op (.bin .eql) [.v 2, .c (.int .i64 16)] <|
  T.fin .normal [.v 17]) 1 <|
  T.ite (.v 16) (T.call 63 [.v 4, .v 9] 1 <|
  T.fin .ret [.v 17]) <|
  T.bind .normal (T.op (.bin .eql) [.v 2, .c (.int .i64 15)] <|
  T.ite (.v 17) (T.fin .normal [.c (.bool true)]) <|
  T.op (.bin .eql) [.v 2, .c (.int .i64 14)] <|
  T.ite (.v 18) (T.fin .normal [.c (.bool true)]) <|
  T.op (.bin .eql) [.v 2, .c (.int .i64 13)] <|
  T.fin .normal [.v 19]) 1 <|
  T.ite (.v 17) (T.call 64 [.v 5, .v 10] 1 <|
  T.fin .ret [.v 18]) <|
  T.op (.bin .eql) [.v 2, .c (.int .i64 12)] <|
  T.ite (.v 18) (T.call 65 [.v 0, .v 1] 1 <|
  T.fin .ret [.v 19]) <|
  T.fin .ret [.c (.int .i64 0)]
/-- cmp.Compare[int] -/
def t60 : T :=
  T.call 93 [.v 0] 1 <|
  T.call 93 [.v 1] 1 <|
  T.ite (.v 2) (T.ite (.v 3) (T.fin .ret [.c (.int .i64 0)]) <|
  T.fin .ret [.c (.int .i64 (-1))]) <|
  T.ite (.v 3) (T.fin .ret [.c (.int .i64 1)]) <|
  T.op (.bin .lss) [.v 0, .v 1] <|
  T.ite (.v 4) (T.fin .ret [.c (.int .i64 (-1))]) <|
  T.op (.bin .gtr) [.v 0, .v 1] <|
  T.ite (.v 5) (T.fin .ret [.c (.int .i64 1)]) <|
  T.fin .ret [.c (.int .i64 0)]
/-- cmp.Compare[int64] -/
def t61 : T :=
  T.call 94 [.v 0] 1 <|
  T.call 94 [.v 1] 1 <|
  T.ite (.v 2) (T.ite (.v 3) (T.fin .ret [.c (.int .i64 0)]) <|
  T.fin .ret [.c (.int .i64 (-1))]) <|
  T.ite (.v 3) (T.fin .ret [.c (.int .i64 1)]) <|
  T.op (.bin .lss) [.v 0, .v 1] <|
  T.ite (.v 4) (T.fin .ret [.c (.int .i64 (-1))]) <|
  T.op (.bin .gtr) [.v 0, .v 1] <|
  T.ite (.v 5) (T.fin .ret [.c (.int .i64 1)]) <|
  T.fin .ret [.c (.int .i64 0)]
/-- cmp.isNaN[int] -/
def t93 : T :=
  T.op (.bin .neq) [.v 0, .v 0] <|
  T.fin .ret [.v 1]
/-- cmp.isNaN[int64] -/
def t94 : T :=
  T.op (.bin .neq) [.v 0, .v 0] <|
  T.fin .ret [.v 1]
/-- slices.CompactFunc[[]assayer/api.Value,assayer/api.Value] -/
def t69 : T :=
  T.op (.pop (.len)) [.v 0] <|
  T.op (.bin .lss) [.v 2, .c (.int .i64 2)] <|
  T.ite (.v 3) (T.fin .ret [.v 0, .v 0]) <|
  T.bind (.exit 0) (T.loop [.c (.int .i64 1)] <|
  T.op (.bin .lss) [.v 4, .v 2] <|
  T.ite (.v 5) (T.op (.pop (.elt 5)) [.v 0, .v 4] <|
  T.op (.bin .sub) [.v 4, .c (.int .i64 1)] <|
  T.op (.pop (.elt 5)) [.v 0, .v 7] <|
  T.callv [29, 70] (.v 1) [.v 6, .v 8] 1 <|
  T.ite (.v 9) (T.op (.pop (.slc 5 true false)) [.v 0, .v 4] <|
  T.bind (.exit 2) (T.loop [.v 4, .c (.int .i64 1), .v 0] <|
  T.op (.pop (.slc 5 true true)) [.v 13, .v 4, .v 2] <|
  T.op (.pop (.len)) [.v 14] <|
  T.op (.bin .lss) [.v 12, .v 15] <|
  T.ite (.v 16) (T.bind (.exit 3) (T.op (.pop (.slc 5 true true)) [.v 13, .v 4, .v 2] <|
  T.op (.pop (.elt 5)) [.v 17, .v 12] <|
  T.op (.pop (.addN)) [.v 4, .v 12] <|
  T.op (.bin .sub) [.v 12, .c (.int .i64 1)] <|
  T.op (.pop (.slc 5 true true)) [.v 13, .v 4, .v 2] <|
  T.op (.pop (.elt 5)) [.v 21, .v 20] <|
  T.op (.pop (.addN)) [.v 4, .v 20] <|
  T.callv [29, 70] (.v 1) [.v 18, .v 22] 1 <|
  T.op .no [.v 24] <|
  T.ite (.v 25) (T.op (.pop (.slc 5 true true)) [.v 13, .v 4, .v 2] <|
  T.op (.pop (.elt 5)) [.v 26, .v 12] <|
  T.op (.pop (.elt 5)) [.v 13, .v 11] <|
  T.op (.pop (.cell 0 5)) [.v 27] <|
  T.op (.pop (.cell 1 5)) [.v 27] <|
  T.op (.pop (.cell 2 5)) [.v 27] <|
  T.op (.pop (.cell 3 5)) [.v 27] <|
  T.op (.pop (.cell 4 5)) [.v 27] <|
  T.op (.pop (.upd 5 0 true)) [.v 13, .v 11, .v 29, .v 30, .v 31, .v 32, .v 33] <|
  T.op (.bin .add) [.v 11, .c (.int .i64 1)] <|
  T.fin (.exit 3) [.v 35, .v 34]) <|
  T.fin (.exit 3) [.v 11, .v 13]) 2 <|
  T.op (.bin .add) [.v 12, .c (.int .i64 1)] <|
  T.fin .normal [.v 17, .v 19, .v 18]) <|
  T.fin (.exit 2) [.v 11, .v 13]) 2 <|
  T.op (.pop (.slc 5 true false)) [.v 12, .v 11] <|
  T.op (.pop (.len)) [.v 12] <|
  T.op (.pop (.slc 5 true true)) [.v 12, .v 11, .v 14] <|
  T.op (.pop (.clr 5 [.int .i64 0, .int .i64 0, V.txt [], .nil, .nil] true)) [.v 12, .v 11, .v 14] <|
  T.op (.pop (.slc 5 false true)) [.v 16, .v 11] <|
  T.op (.pop (.slc 5 true true)) [.v 16, .c (.int .i64 0), .v 11] <|
  T.fin .ret [.v 18, .v 16]) <|
  T.op (.bin .add) [.v 4, .c (.int .i64 1)] <|
  T.fin .normal [.v 10]) <|
  T.fin (.exit 0) []) 0 <|
  T.fin .ret [.v 0, .v 0]
/-- assayer/order.within$1 -/
def t70 : T :=
  T.op (.pop (.cell 0 5)) [.v 0] <|
  T.op (.pop (.cell 1 5)) [.v 0] <|
  T.op (.pop (.cell 2 5)) [.v 0] <|
  T.op (.pop (.cell 3 5)) [.v 0] <|
  T.op (.pop (.cell 4 5)) [.v 0] <|
  T.op (.pop (.cell 0 5)) [.v 1] <|
  T.op (.pop (.cell 1 5)) [.v 1] <|
  T.op (.pop (.cell 2 5)) [.v 1] <|
  T.op (.pop (.cell 3 5)) [.v 1] <|
  T.op (.pop (.cell 4 5)) [.v 1] <|
  T.call 29 [.v 0, .v 1] 1 <|
  T.op (.bin .eql) [.v 12, .c (.int .i64 0)] <|
  T.fin .ret [.v 13]
/-- assayer/order.Is -/
def t14 : T :=
  T.op (.pop (.cell 0 5)) [.v 0] <|
  T.op (.pop (.cell 1 5)) [.v 0] <|
  T.op (.pop (.cell 2 5)) [.v 0] <|
  T.op (.pop (.cell 3 5)) [.v 0] <|
  T.op (.pop (.cell 4 5)) [.v 0] <|
  T.call 13 [.v 0] 2 <|
  T.op (.pop (.cell 0 5)) [.v 6] <|
  T.op (.pop (.cell 1 5)) [.v 6] <|
  T.op (.pop (.cell 2 5)) [.v 6] <|
  T.op (.pop (.cell 3 5)) [.v 6] <|
  T.op (.pop (.cell 4 5)) [.v 6] <|
  T.bind .normal (T.op (.bin .eql) [.v 7, .c (.int .i64 0)] <|
  T.ite (.v 13) (T.call 29 [.v 0, .v 6] 1 <|
  T.op (.bin .eql) [.v 14, .c (.int .i64 0)] <|
  T.fin .normal [.v 15]) <|
  T.fin .normal [.c (.bool false)]) 1 <|
  T.fin .ret [.v 13]
/-- assayer/assayerlaw13.Twins -/
def t11 : T :=
  T.op (.pop (.cell 0 5)) [.v 0] <|
  T.op (.pop (.cell 1 5)) [.v 0] <|
  T.op (.pop (.cell 2 5)) [.v 0] <|
  T.op (.pop (.cell 3 5)) [.v 0] <|
  T.op (.pop (.cell 4 5)) [.v 0] <|
  T.op (.pop (.cell 0 5)) [.v 1] <|
  T.op (.pop (.cell 1 5)) [.v 1] <|
  T.op (.pop (.cell 2 5)) [.v 1] <|
  T.op (.pop (.cell 3 5)) [.v 1] <|
  T.op (.pop (.cell 4 5)) [.v 1] <|
  T.op (.bin .neq) [.v 2, .v 7] <|
  T.ite (.v 12) (T.fin .ret [.c (.bool false)]) <|
  T.op (.bin .neq) [.v 3, .v 8] <|
  T.ite (.v 13) (T.fin .ret [.c (.bool false)]) <|
  T.op (.bin .neq) [.v 4, .v 9] <|
  T.ite (.v 14) (T.fin .ret [.c (.bool false)]) <|
  T.op (.pop (.len)) [.v 5] <|
  T.op (.pop (.len)) [.v 10] <|
  T.op (.bin .neq) [.v 15, .v 16] <|
  T.ite (.v 17) (T.fin .ret [.c (.bool false)]) <|
  T.op (.pop (.len)) [.v 6] <|
  T.op (.pop (.len)) [.v 11] <|
  T.op (.bin .neq) [.v 18, .v 19] <|
  T.ite (.v 20) (T.fin .ret [.c (.bool false)]) <|
  T.bind (.exit 0) (T.loop [.c (.int .i64 0)] <|
  T.op (.bin .lss) [.v 21, .v 18] <|
  T.ite (.v 22) (T.op (.pop (.elt 1)) [.v 6, .v 21] <|
  T.op (.pop (.cell 0 1)) [.v 23] <|
  T.op (.pop (.elt 1)) [.v 11, .v 21] <|
  T.op (.pop (.cell 0 1)) [.v 25] <|
  T.op (.bin .neq) [.v 24, .v 26] <|
  T.ite (.v 27) (T.fin .ret [.c (.bool false)]) <|
  T.op (.bin .add) [.v 21, .c (.int .i64 1)] <|
  T.fin .normal [.v 28]) <|
  T.fin (.exit 0) []) 0 <|
  T.bind (.exit 2) (T.loop [.c (.int .i64 0)] <|
  T.op (.bin .lss) [.v 21, .v 15] <|
  T.ite (.v 22) (T.op (.pop (.elt 5)) [.v 5, .v 21] <|
  T.op (.pop (.elt 5)) [.v 10, .v 21] <|
  T.call 11 [.v 23, .v 24] 1 <|
  T.op .no [.v 25] <|
  T.ite (.v 26) (T.fin .ret [.c (.bool false)]) <|
  T.op (.bin .add) [.v 21, .c (.int .i64 1)] <|
  T.fin .normal [.v 27]) <|
  T.fin (.exit 2) []) 0 <|
  T.fin .ret [.c (.bool true)]
/-- assayer/order.places -/
def t64 : T :=
  T.call 97 [.v 0, .v 1, .c (.fn 29 [])] 1 <|
  T.fin .ret [.v 2]
/-- slices.CompareFunc[[]assayer/api.Value,[]assayer/api.Value,assayer/api.Value,assayer/api.Value] -/
def t97 : T :=
  T.op (.pop (.len)) [.v 0] <|
  T.bind (.exit 0) (T.loop [.c (.int .i64 0)] <|
  T.op (.bin .lss) [.v 4, .v 3] <|
  T.ite (.v 5) (T.op (.pop (.elt 5)) [.v 0, .v 4] <|
  T.op (.pop (.cell 0 5)) [.v 6] <|
  T.op (.pop (.cell 1 5)) [.v 6] <|
  T.op (.pop (.cell 2 5)) [.v 6] <|
  T.op (.pop (.cell 3 5)) [.v 6] <|
  T.op (.pop (.cell 4 5)) [.v 6] <|
  T.op (.pop (.len)) [.v 1] <|
  T.op (.bin .geq) [.v 4, .v 12] <|
  T.ite (.v 13) (T.fin .ret [.c (.int .i64 1)]) <|
  T.op (.pop (.elt 5)) [.v 1, .v 4] <|
  T.op (.pop (.cell 0 5)) [.v 14] <|
  T.op (.pop (.cell 1 5)) [.v 14] <|
  T.op (.pop (.cell 2 5)) [.v 14] <|
  T.op (.pop (.cell 3 5)) [.v 14] <|
  T.op (.pop (.cell 4 5)) [.v 14] <|
  T.callv [29, 70] (.v 2) [.v 6, .v 14] 1 <|
  T.op (.bin .neq) [.v 20, .c (.int .i64 0)] <|
  T.ite (.v 21) (T.fin .ret [.v 20]) <|
  T.op (.bin .add) [.v 4, .c (.int .i64 1)] <|
  T.fin .normal [.v 22]) <|
  T.fin (.exit 0) []) 0 <|
  T.op (.pop (.len)) [.v 1] <|
  T.op (.bin .lss) [.v 3, .v 4] <|
  T.ite (.v 5) (T.fin .ret [.c (.int .i64 (-1))]) <|
  T.fin .ret [.c (.int .i64 0)]
def trees : List (Nat × Nat × T) := [(4, 2, t4), (12, 0, t12), (13, 1, t13), (31, 1, t31), (67, 1, t67), (30, 1, t30), (66, 1, t66), (68, 2, t68), (98, 3, t98), (120, 4, t120), (121, 5, t121), (130, 5, t130), (137, 5, t137), (29, 2, t29), (60, 2, t60), (61, 2, t61), (93, 1, t93), (94, 1, t94), (69, 2, t69), (70, 2, t70), (14, 1, t14), (11, 2, t11), (64, 2, t64), (97, 3, t97)]
def sigs : List (Nat × FSig) := [(68, ⟨true, false, [.row 28, .dat], [], false⟩), (69, ⟨true, false, [.row 28, .dat], [.dat], true⟩), (98, ⟨true, false, [.row 28, .dat, .dat], [], false⟩), (120, ⟨true, false, [.row 28, .dat, .dat, .dat], [], false⟩), (121, ⟨true, false, [.row 28, .dat, .dat, .dat, .dat], [], false⟩), (130, ⟨true, false, [.row 28, .dat, .dat, .dat, .dat], [], false⟩), (137, ⟨true, false, [.row 28, .dat, .dat, .dat, .dat], [], false⟩)]
def cellL : List (Nat × List (Option Nat)) := [(138, [none, none, none, some 9, none]), (130, [none, none, none]), (67, [none, none, none, none]), (74, [some 72, none, none, none])]
def valL : List Nat := [29, 70]
def cloneL : List Nat := []
def known (f : Nat) (ds : List D) : Option (List D) := none
end Go.Proofs.Ytjofhegodknmaaa.St
