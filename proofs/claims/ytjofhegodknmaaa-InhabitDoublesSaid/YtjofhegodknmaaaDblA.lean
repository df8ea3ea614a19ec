/- InhabitDoubles: the trees. To: InhabitDoubles: the trees. -/
import Derived.Test.YtjofhegodknmaaaXa
set_option linter.unusedSimpArgs false
set_option linter.unusedVariables false
/-! InhabitDoubles: the trees. -/
namespace Go.Proofs.Ytjofhegodknmaaa.Dbl
open Go Go.RowKit
open W hiding R L
open V (D)
/-- assayer/assayerlaw16.InhabitDoubles -/
def t6 : T :=
  T.call 15 [] 1 <|
  T.op .no [.v 1] <|
  T.ite (.v 2) (T.fin .ret [.c (.bool false)]) <|
  T.op (.bin .rem) [.v 0, .c (.int .u8 40)] <|
  T.op (.conv .i64) [.v 3] <|
  T.op (.bin .add) [.c (.int .i64 1), .v 4] <|
  T.bind (.exit 0) (T.loop [.c (.int .i64 0), .c (.nil)] <|
  T.op (.bin .leq) [.v 6, .v 5] <|
  T.ite (.v 8) (T.op (.bin .quo) [.v 6, .c (.int .i64 26)] <|
  T.op (.bin .add) [.c (.int .i64 65), .v 9] <|
  T.op (.conv .u8) [.v 10] <|
  T.op (.bin .rem) [.v 6, .c (.int .i64 26)] <|
  T.op (.bin .add) [.c (.int .i64 65), .v 12] <|
  T.op (.conv .u8) [.v 13] <|
  T.op (.pop (.mkLst 1 false)) [.v 11, .v 14] <|
  T.op .text [.v 15] <|
  T.op (.bin .add) [.c (V.txt [97, 46]), .v 16] <|
  T.bind .normal (T.op (.bin .lss) [.v 6, .v 5] <|
  T.ite (.v 18) (T.op (.bin .add) [.v 6, .c (.int .i64 1)] <|
  T.op (.bin .quo) [.v 19, .c (.int .i64 26)] <|
  T.op (.bin .add) [.c (.int .i64 65), .v 20] <|
  T.op (.conv .u8) [.v 21] <|
  T.op (.bin .add) [.v 6, .c (.int .i64 1)] <|
  T.op (.bin .rem) [.v 23, .c (.int .i64 26)] <|
  T.op (.bin .add) [.c (.int .i64 65), .v 24] <|
  T.op (.conv .u8) [.v 25] <|
  T.op (.pop (.mkLst 1 false)) [.v 22, .v 26] <|
  T.op .text [.v 27] <|
  T.op (.bin .add) [.c (V.txt [97, 46]), .v 28] <|
  T.op (.pop (.mkAgg)) [.c (.int .i64 1), .c (.int .i64 1), .v 29, .c (V.txt [97]), .c (.bool false), .c (.int .i64 0), .c (.int .i64 0), .c (V.txt []), .c (.nil), .c (.nil)] <|
  T.op (.pop (.mkAgg)) [.c (.int .i64 2), .c (.int .i64 1), .v 29, .c (V.txt [98]), .c (.bool false), .c (.int .i64 0), .c (.int .i64 0), .c (V.txt []), .c (.nil), .c (.nil)] <|
  T.op (.pop (.mkLst 10 true)) [.v 30, .v 31] <|
  T.fin .normal [.v 32]) <|
  T.fin .normal [.c (.nil)]) 1 <|
  T.op (.pop (.room 1 48)) [.v 7] <|
  T.op (.pop (.mkAgg)) [.c (.int .i64 4), .v 17, .v 18] <|
  T.op (.pop (.mkLst 3 true)) [.v 20] <|
  T.op (.pop (.cat 3 48 true)) [.v 7, .v 21] <|
  T.op (.bin .add) [.v 6, .c (.int .i64 1)] <|
  T.fin .normal [.v 23, .v 22]) <|
  T.fin (.exit 0) [.v 7]) 1 <|
  T.op (.pop (.mkAgg)) [.v 6, .c (.nil), .c (.nil)] <|
  T.call 16 [.v 7] 1 <|
  T.bind .normal (T.op (.bin .lss) [.v 5, .c (.int .i64 19)] <|
  T.ite (.v 9) (T.op (.bin .add) [.v 5, .c (.int .i64 1)] <|
  T.op (.bin .shl) [.c (.int .i64 1), .v 10] <|
  T.op (.bin .sub) [.v 11, .c (.int .i64 1)] <|
  T.fin .normal [.v 12]) <|
  T.fin .normal [.c (.int .i64 1000000)]) 1 <|
  T.bind .normal (T.op (.mget (.int .i64 0)) [.v 8, .c (V.txt [97, 46, 65, 65])] <|
  T.op (.mx false) [.v 9, .c (.int .i64 1000000)] <|
  T.op (.bin .eql) [.v 10, .v 11] <|
  T.ite (.v 12) (T.call 17 [.v 7] 1 <|
  T.op (.mget (.int .i64 0)) [.v 13, .c (V.txt [97, 46, 65, 65])] <|
  T.op (.bin .add) [.v 5, .c (.int .i64 1)] <|
  T.op (.bin .eql) [.v 14, .v 15] <|
  T.fin .normal [.v 16]) <|
  T.fin .normal [.c (.bool false)]) 1 <|
  T.fin .ret [.v 10]
/-- assayer/assayerlaw16.begun -/
def t15 : T :=
  T.call 17 [.c (.agg [.lst [.agg [.int .i64 4, V.txt [97, 46, 65], .lst [.agg [.int .i64 1, .int .i64 1, V.txt [97, 46, 65], V.txt [], .bool false, .int .i64 0, .int .i64 0, V.txt [], .nil, .nil]]], .agg [.int .i64 4, V.txt [97, 46, 66], .lst [.agg [.int .i64 1, .int .i64 1, V.txt [105, 56], V.txt [], .bool false, .int .i64 0, .int .i64 0, V.txt [], .nil, .nil]]]], .nil, .nil])] 1 <|
  T.call 19 [.c (.agg [.lst [.agg [.int .i64 4, V.txt [97, 46, 65], .lst [.agg [.int .i64 1, .int .i64 1, V.txt [97, 46, 65], V.txt [], .bool false, .int .i64 0, .int .i64 0, V.txt [], .nil, .nil]]], .agg [.int .i64 4, V.txt [97, 46, 66], .lst [.agg [.int .i64 1, .int .i64 1, V.txt [105, 56], V.txt [], .bool false, .int .i64 0, .int .i64 0, V.txt [], .nil, .nil]]]], .nil, .nil]), .c (V.txt [97, 46, 66])] 2 <|
  T.op (.pop (.cell 0 5)) [.v 1] <|
  T.op (.pop (.cell 1 5)) [.v 1] <|
  T.op (.pop (.cell 2 5)) [.v 1] <|
  T.op (.pop (.cell 3 5)) [.v 1] <|
  T.op (.pop (.cell 4 5)) [.v 1] <|
  T.call 19 [.c (.agg [.lst [.agg [.int .i64 4, V.txt [97, 46, 65], .lst [.agg [.int .i64 1, .int .i64 1, V.txt [97, 46, 65], V.txt [], .bool false, .int .i64 0, .int .i64 0, V.txt [], .nil, .nil]]], .agg [.int .i64 4, V.txt [97, 46, 66], .lst [.agg [.int .i64 1, .int .i64 1, V.txt [105, 56], V.txt [], .bool false, .int .i64 0, .int .i64 0, V.txt [], .nil, .nil]]]], .nil, .nil]), .c (V.txt [97, 46, 65])] 2 <|
  T.op (.pop (.cell 0 5)) [.v 8] <|
  T.op (.pop (.cell 1 5)) [.v 8] <|
  T.op (.pop (.cell 2 5)) [.v 8] <|
  T.op (.pop (.cell 3 5)) [.v 8] <|
  T.op (.pop (.cell 4 5)) [.v 8] <|
  T.call 16 [.c (.agg [.lst [.agg [.int .i64 4, V.txt [97, 46, 65], .lst [.agg [.int .i64 1, .int .i64 1, V.txt [97, 46, 65], V.txt [], .bool false, .int .i64 0, .int .i64 0, V.txt [], .nil, .nil]]], .agg [.int .i64 4, V.txt [97, 46, 66], .lst [.agg [.int .i64 1, .int .i64 1, V.txt [105, 56], V.txt [], .bool false, .int .i64 0, .int .i64 0, V.txt [], .nil, .nil]]]], .nil, .nil])] 1 <|
  T.bind .normal (T.op (.pop (.mlen)) [.v 0] <|
  T.op (.bin .eql) [.v 16, .c (.int .i64 1)] <|
  T.ite (.v 17) (T.op (.mget (.int .i64 0)) [.v 0, .c (V.txt [97, 46, 66])] <|
  T.op (.bin .eql) [.v 18, .c (.int .i64 1)] <|
  T.ite (.v 19) (T.ite (.v 2) (T.op (.pop (.len)) [.v 6] <|
  T.op (.bin .eql) [.v 20, .c (.int .i64 1)] <|
  T.ite (.v 21) (T.op .no [.v 9] <|
  T.ite (.v 22) (T.op (.mget (.int .i64 0)) [.v 15, .c (V.txt [97, 46, 66])] <|
  T.op (.bin .eql) [.v 23, .c (.int .i64 2)] <|
  T.fin .normal [.v 24]) <|
  T.fin .normal [.c (.bool false)]) <|
  T.fin .normal [.c (.bool false)]) <|
  T.fin .normal [.c (.bool false)]) <|
  T.fin .normal [.c (.bool false)]) <|
  T.fin .normal [.c (.bool false)]) 1 <|
  T.fin .ret [.v 16]
/-- assayer/inhabit.Has -/
def t17 : T :=
  T.op (.pop (.cell 0 3)) [.v 0] <|
  T.op (.pop (.cell 1 3)) [.v 0] <|
  T.op (.pop (.cell 2 3)) [.v 0] <|
  T.loop [.c (.lst [])] <|
  T.op (.pop (.len)) [.v 1] <|
  T.bind (.exit 2) (T.loop [.c (.int .i64 0), .v 4, .v 4] <|
  T.op (.bin .lss) [.v 6, .v 5] <|
  T.ite (.v 9) (T.bind (.exit 3) (T.op (.pop (.elt 3)) [.v 1, .v 6] <|
  T.op (.pop (.cell 0 3)) [.v 10] <|
  T.op (.pop (.cell 1 3)) [.v 10] <|
  T.op (.pop (.cell 2 3)) [.v 10] <|
  T.op (.mget (.int .i64 0)) [.v 7, .v 12] <|
  T.op .mhas [.v 7, .v 12] <|
  T.ite (.v 15) (T.fin (.exit 3) [.v 7, .v 8]) <|
  T.call 35 [.v 7, .v 0, .v 10] 2 <|
  T.op (.bin .geq) [.v 16, .c (.int .i64 0)] <|
  T.ite (.v 18) (T.op .mput [.v 8, .v 12, .v 16] <|
  T.fin (.exit 3) [.v 17, .v 19]) <|
  T.fin (.exit 3) [.v 17, .v 8]) 2 <|
  T.op (.bin .add) [.v 6, .c (.int .i64 1)] <|
  T.fin .normal [.v 12, .v 10, .v 11]) <|
  T.fin (.exit 2) [.v 7, .v 8]) 2 <|
  T.op (.pop (.mlen)) [.v 7] <|
  T.op (.pop (.mlen)) [.v 6] <|
  T.op (.bin .eql) [.v 8, .v 9] <|
  T.ite (.v 10) (T.fin .ret [.v 6]) <|
  T.fin .normal [.v 7]
/-- assayer/inhabit.Weights -/
def t16 : T :=
  T.op (.pop (.cell 0 3)) [.v 0] <|
  T.op (.pop (.cell 1 3)) [.v 0] <|
  T.op (.pop (.cell 2 3)) [.v 0] <|
  T.call 17 [.v 0] 1 <|
  T.bind (.exit 0) (T.loop [.c (.int .i64 1), .v 1, .v 2, .v 3, .c (.lst []), .v 4] <|
  T.op (.pop (.mlen)) [.v 9] <|
  T.op (.pop (.mlen)) [.v 10] <|
  T.op (.bin .lss) [.v 11, .v 12] <|
  T.ite (.v 13) (T.op (.bin .leq) [.v 5, .v 12] <|
  T.ite (.v 14) (T.op (.pop (.len)) [.v 1] <|
  T.bind (.exit 2) (T.loop [.c (.int .i64 0), .v 6, .v 7, .v 8, .v 9, .v 10] <|
  T.op (.bin .lss) [.v 16, .v 15] <|
  T.ite (.v 22) (T.bind (.exit 3) (T.op (.pop (.elt 3)) [.v 1, .v 16] <|
  T.op (.pop (.cell 0 3)) [.v 23] <|
  T.op (.pop (.cell 1 3)) [.v 23] <|
  T.op (.pop (.cell 2 3)) [.v 23] <|
  T.op (.mget (.int .i64 0)) [.v 20, .v 25] <|
  T.op .mhas [.v 20, .v 25] <|
  T.ite (.v 28) (T.fin (.exit 3) [.v 17, .v 18, .v 19, .v 20, .v 21]) <|
  T.op (.mget (.int .i64 0)) [.v 21, .v 25] <|
  T.op (.bin .neq) [.v 29, .v 5] <|
  T.ite (.v 30) (T.fin (.exit 3) [.v 17, .v 18, .v 19, .v 20, .v 21]) <|
  T.call 32 [.v 21, .v 17, .v 18, .v 19, .v 23] 5 <|
  T.op (.pop (.len)) [.v 31] <|
  T.bind (.exit 4) (T.loop [.c (.int .i64 1), .c (.int .i64 0)] <|
  T.op (.bin .lss) [.v 38, .v 36] <|
  T.ite (.v 39) (T.op (.pop (.elt 10)) [.v 31, .v 38] <|
  T.op (.pop (.cell 0 10)) [.v 40] <|
  T.op (.pop (.cell 1 10)) [.v 40] <|
  T.op (.pop (.cell 2 10)) [.v 40] <|
  T.op (.pop (.cell 3 10)) [.v 40] <|
  T.op (.pop (.cell 4 10)) [.v 40] <|
  T.op (.pop (.cell 5 10)) [.v 40] <|
  T.op (.pop (.cell 6 10)) [.v 40] <|
  T.op (.pop (.cell 7 10)) [.v 40] <|
  T.op (.pop (.cell 8 10)) [.v 40] <|
  T.op (.pop (.cell 9 10)) [.v 40] <|
  T.bind .normal (T.call 33 [.v 0, .v 43] 1 <|
  T.op (.bin .eql) [.v 51, .c (.int .i64 12)] <|
  T.ite (.v 52) (T.op (.mget (.int .i64 0)) [.v 20, .v 43] <|
  T.fin .normal [.v 53]) <|
  T.fin .normal [.c (.int .i64 1)]) 1 <|
  T.op (.bin .add) [.v 37, .v 51] <|
  T.op (.mx false) [.v 52, .c (.int .i64 1000000)] <|
  T.op (.bin .add) [.v 38, .c (.int .i64 1)] <|
  T.fin .normal [.v 53, .v 54]) <|
  T.fin (.exit 4) [.v 37]) 1 <|
  T.op .mput [.v 20, .v 25, .v 37] <|
  T.fin (.exit 3) [.v 33, .v 34, .v 35, .v 38, .v 32]) 5 <|
  T.op (.bin .add) [.v 16, .c (.int .i64 1)] <|
  T.fin .normal [.v 28, .v 23, .v 24, .v 25, .v 26, .v 27]) <|
  T.fin (.exit 2) [.v 17, .v 18, .v 19, .v 20, .v 21]) 5 <|
  T.op (.bin .add) [.v 5, .c (.int .i64 1)] <|
  T.fin .normal [.v 21, .v 16, .v 17, .v 18, .v 19, .v 20]) <|
  T.fin (.exit 0) [.v 9]) <|
  T.fin (.exit 0) [.v 9]) 1 <|
  T.fin .ret [.v 5]
/-- assayer/inhabit.Least -/
def t19 : T :=
  T.op (.pop (.cell 0 3)) [.v 0] <|
  T.op (.pop (.cell 1 3)) [.v 0] <|
  T.op (.pop (.cell 2 3)) [.v 0] <|
  T.call 17 [.v 0] 1 <|
  T.call 36 [.v 5, .v 0, .v 1] 2 <|
  T.op (.bin .lss) [.v 6, .c (.int .i64 0)] <|
  T.ite (.v 8) (T.fin .ret [.c (.agg [.int .i64 0, .int .i64 0, V.txt [], .nil, .nil]), .c (.bool false)]) <|
  T.call 37 [.v 7, .v 2, .v 3, .v 4, .v 1] 5 <|
  T.op (.pop (.cell 0 5)) [.v 9] <|
  T.op (.pop (.cell 1 5)) [.v 9] <|
  T.op (.pop (.cell 2 5)) [.v 9] <|
  T.op (.pop (.cell 3 5)) [.v 9] <|
  T.op (.pop (.cell 4 5)) [.v 9] <|
  T.fin .ret [.v 9, .c (.bool true)]
/-- (*assayer/inhabit.maker).least -/
def t37 : T :=
  T.call 74 [.v 4] 5 <|
  T.op (.bin .neq) [.v 5, .c (.int .i64 0)] <|
  T.ite (.v 10) (T.op (.pop (.cell 0 1)) [.v 5] <|
  T.op (.pop (.mkAgg)) [.v 11, .c (.int .i64 0), .c (V.txt []), .c (.nil), .c (.nil)] <|
  T.fin .ret [.v 12, .v 0, .v 1, .v 2, .v 3]) <|
  T.op (.pop (.mkAgg)) [.v 1, .v 2, .v 3] <|
  T.call 76 [.v 11, .v 6] 2 <|
  T.op (.pop (.cell 0 2)) [.v 12] <|
  T.op (.pop (.cell 1 2)) [.v 12] <|
  T.ite (.v 13) (T.op (.pop (.elt 3)) [.v 15, .c (.int .i64 0)] <|
  T.op (.pop (.cell 2 3)) [.v 16] <|
  T.op (.pop (.mkAgg)) [.c (.int .i64 17), .v 17, .c (V.txt []), .c (.nil), .c (.nil)] <|
  T.fin .ret [.v 18, .v 0, .v 1, .v 2, .v 3]) <|
  T.call 75 [.v 11, .v 6] 2 <|
  T.op (.pop (.cell 0 3)) [.v 16] <|
  T.op (.pop (.cell 1 3)) [.v 16] <|
  T.op (.pop (.cell 2 3)) [.v 16] <|
  T.call 78 [.v 0, .v 1, .v 2, .v 3, .v 16] 5 <|
  T.op (.pop (.cell 0 5)) [.v 21] <|
  T.op (.pop (.cell 1 5)) [.v 21] <|
  T.op (.pop (.cell 2 5)) [.v 21] <|
  T.op (.pop (.cell 3 5)) [.v 21] <|
  T.op (.pop (.cell 4 5)) [.v 21] <|
  T.fin .ret [.v 21, .v 22, .v 23, .v 24, .v 25]
/-- (*assayer/inhabit.maker).fields -/
def t78 : T :=
  T.op (.pop (.cell 0 3)) [.v 4] <|
  T.op (.pop (.cell 1 3)) [.v 4] <|
  T.op (.pop (.cell 2 3)) [.v 4] <|
  T.call 32 [.v 0, .v 1, .v 2, .v 3, .v 4] 5 <|
  T.op (.pop (.len)) [.v 8] <|
  T.bind (.exit 0) (T.loop [.c (.int .i64 0), .v 10, .v 11, .v 12, .v 9, .c (.nil), .c (.nil)] <|
  T.op (.bin .lss) [.v 14, .v 13] <|
  T.ite (.v 21) (T.op (.pop (.elt 10)) [.v 8, .v 14] <|
  T.op (.pop (.cell 0 10)) [.v 22] <|
  T.op (.pop (.cell 1 10)) [.v 22] <|
  T.op (.pop (.cell 2 10)) [.v 22] <|
  T.op (.pop (.cell 3 10)) [.v 22] <|
  T.op (.pop (.cell 4 10)) [.v 22] <|
  T.op (.pop (.cell 5 10)) [.v 22] <|
  T.op (.pop (.cell 6 10)) [.v 22] <|
  T.op (.pop (.cell 7 10)) [.v 22] <|
  T.op (.pop (.cell 8 10)) [.v 22] <|
  T.op (.pop (.cell 9 10)) [.v 22] <|
  T.op (.pop (.mkLst 1 false)) [.v 23] <|
  T.op (.pop (.cat 1 8 false)) [.v 20, .v 33] <|
  T.call 37 [.v 18, .v 15, .v 16, .v 17, .v 25] 5 <|
  T.op (.pop (.cell 0 5)) [.v 35] <|
  T.op (.pop (.cell 1 5)) [.v 35] <|
  T.op (.pop (.cell 2 5)) [.v 35] <|
  T.op (.pop (.cell 3 5)) [.v 35] <|
  T.op (.pop (.cell 4 5)) [.v 35] <|
  T.op (.pop (.mkLst 5 true)) [.v 35] <|
  T.op (.pop (.cat 5 80 true)) [.v 19, .v 45] <|
  T.op (.bin .add) [.v 14, .c (.int .i64 1)] <|
  T.fin .normal [.v 47, .v 37, .v 38, .v 39, .v 36, .v 46, .v 34]) <|
  T.fin (.exit 0) [.v 15, .v 16, .v 17, .v 18, .v 19, .v 20]) 6 <|
  T.op (.pop (.mkAgg)) [.c (.int .i64 12), .c (.int .i64 0), .c (V.txt []), .v 18, .v 19] <|
  T.fin .ret [.v 20, .v 17, .v 14, .v 15, .v 16]
/-- (*assayer/inhabit.maker).parts -/
def t32 : T :=
  T.op (.pop (.cell 0 3)) [.v 4] <|
  T.op (.pop (.cell 1 3)) [.v 4] <|
  T.op (.pop (.cell 2 3)) [.v 4] <|
  T.op (.bin .eql) [.v 5, .c (.int .i64 5)] <|
  T.ite (.v 8) (T.op (.pop (.mkAgg)) [.v 1, .v 2, .v 3] <|
  T.call 73 [.v 0, .v 9, .v 4] 3 <|
  T.op (.bin .lss) [.v 10, .c (.int .i64 0)] <|
  T.ite (.v 13) (T.fin .ret [.c (.nil), .v 12, .v 1, .v 2, .v 3]) <|
  T.op (.bin .add) [.v 10, .c (.int .i64 1)] <|
  T.op (.pop (.slc 10 true true)) [.v 7, .v 10, .v 14] <|
  T.fin .ret [.v 15, .v 12, .v 1, .v 2, .v 3]) <|
  T.op (.pop (.len)) [.v 7] <|
  T.bind (.exit 0) (T.loop [.c (.int .i64 0), .c (.nil)] <|
  T.op (.bin .lss) [.v 10, .v 9] <|
  T.ite (.v 12) (T.bind (.exit 1) (T.op (.pop (.elt 10)) [.v 7, .v 10] <|
  T.op (.pop (.cell 0 10)) [.v 13] <|
  T.op (.pop (.cell 1 10)) [.v 13] <|
  T.op (.pop (.cell 2 10)) [.v 13] <|
  T.op (.pop (.cell 3 10)) [.v 13] <|
  T.op (.pop (.cell 4 10)) [.v 13] <|
  T.op (.pop (.cell 5 10)) [.v 13] <|
  T.op (.pop (.cell 6 10)) [.v 13] <|
  T.op (.pop (.cell 7 10)) [.v 13] <|
  T.op (.pop (.cell 8 10)) [.v 13] <|
  T.op (.pop (.cell 9 10)) [.v 13] <|
  T.op (.bin .eql) [.v 15, .c (.int .i64 1)] <|
  T.ite (.v 24) (T.op (.pop (.mkLst 10 true)) [.v 13] <|
  T.op (.pop (.cat 10 136 true)) [.v 11, .v 25] <|
  T.fin (.exit 1) [.v 26]) <|
  T.fin (.exit 1) [.v 11]) 1 <|
  T.op (.bin .add) [.v 10, .c (.int .i64 1)] <|
  T.fin .normal [.v 14, .v 13]) <|
  T.fin (.exit 0) [.v 11]) 1 <|
  T.fin .ret [.v 10, .v 0, .v 1, .v 2, .v 3]
/-- assayer/value.Kind -/
def t33 : T :=
  T.op (.pop (.cell 0 3)) [.v 0] <|
  T.op (.pop (.cell 1 3)) [.v 0] <|
  T.op (.pop (.cell 2 3)) [.v 0] <|
  T.call 74 [.v 1] 5 <|
  T.op (.bin .neq) [.v 9, .c (.int .i64 0)] <|
  T.ite (.v 10) (T.fin .ret [.v 5]) <|
  T.op (.bin .neq) [.v 5, .c (.int .i64 0)] <|
  T.ite (.v 11) (T.fin .ret [.v 5]) <|
  T.call 75 [.v 0, .v 6] 2 <|
  T.op (.pop (.cell 0 3)) [.v 12] <|
  T.op (.pop (.cell 1 3)) [.v 12] <|
  T.op (.pop (.cell 2 3)) [.v 12] <|
  T.ite (.v 13) (T.fin .ret [.c (.int .i64 12)]) <|
  T.call 76 [.v 0, .v 6] 2 <|
  T.op (.pop (.cell 0 2)) [.v 17] <|
  T.op (.pop (.cell 1 2)) [.v 17] <|
  T.ite (.v 18) (T.fin .ret [.c (.int .i64 17)]) <|
  T.fin .ret [.c (.int .i64 0)]
/-- assayer/value.Struct -/
def t75 : T :=
  T.op (.pop (.cell 0 3)) [.v 0] <|
  T.op (.pop (.cell 1 3)) [.v 0] <|
  T.op (.pop (.cell 2 3)) [.v 0] <|
  T.op (.pop (.cell 0 1)) [.v 1] <|
  T.op (.pop (.mkFp)) [.v 5] <|
  T.op (.pop (.mkFn 105)) [.v 6] <|
  T.call 104 [.v 2, .v 7] 1 <|
  T.op (.bin .lss) [.v 8, .c (.int .i64 0)] <|
  T.ite (.v 9) (T.fin .ret [.c (.agg [.int .i64 0, V.txt [], .nil]), .c (.bool false)]) <|
  T.op (.pop (.elt 3)) [.v 2, .v 8] <|
  T.op (.pop (.cell 0 3)) [.v 10] <|
  T.op (.pop (.cell 1 3)) [.v 10] <|
  T.op (.pop (.cell 2 3)) [.v 10] <|
  T.fin .ret [.v 10, .c (.bool true)]
/-- assayer/value.Struct$1 -/
def t105 : T :=
  T.op (.pop (.cell 0 3)) [.v 0] <|
  T.op (.pop (.cell 1 3)) [.v 0] <|
  T.op (.pop (.cell 2 3)) [.v 0] <|
  T.op (.pop (.deref 1)) [.v 1] <|
  T.op (.pop (.cell 0 1)) [.v 5] <|
  T.op (.bin .eql) [.v 3, .v 6] <|
  T.fin .ret [.v 7]
/-- slices.IndexFunc[[]assayer/api.SStruct,assayer/api.SStruct] -/
def t104 : T :=
  T.op (.pop (.len)) [.v 0] <|
  T.bind (.exit 0) (T.loop [.c (.int .i64 0)] <|
  T.op (.bin .lss) [.v 3, .v 2] <|
  T.ite (.v 4) (T.op (.pop (.elt 3)) [.v 0, .v 3] <|
  T.callv [54, 70, 89, 91, 100, 102, 105, 107] (.v 1) [.v 5] 1 <|
  T.ite (.v 6) (T.fin .ret [.v 3]) <|
  T.op (.bin .add) [.v 3, .c (.int .i64 1)] <|
  T.fin .normal [.v 7]) <|
  T.fin (.exit 0) []) 0 <|
  T.fin .ret [.c (.int .i64 (-1))]
/-- assayer/value.Enum -/
def t76 : T :=
  T.op (.pop (.cell 0 3)) [.v 0] <|
  T.op (.pop (.cell 1 3)) [.v 0] <|
  T.op (.pop (.cell 2 3)) [.v 0] <|
  T.op (.pop (.cell 0 1)) [.v 1] <|
  T.op (.pop (.mkFp)) [.v 5] <|
  T.op (.pop (.mkFn 107)) [.v 6] <|
  T.call 106 [.v 3, .v 7] 1 <|
  T.op (.bin .lss) [.v 8, .c (.int .i64 0)] <|
  T.ite (.v 9) (T.fin .ret [.c (.agg [V.txt [], .nil]), .c (.bool false)]) <|
  T.op (.pop (.elt 2)) [.v 3, .v 8] <|
  T.op (.pop (.cell 0 2)) [.v 10] <|
  T.op (.pop (.cell 1 2)) [.v 10] <|
  T.fin .ret [.v 10, .c (.bool true)]
/-- assayer/value.Enum$1 -/
def t107 : T :=
  T.op (.pop (.cell 0 2)) [.v 0] <|
  T.op (.pop (.cell 1 2)) [.v 0] <|
  T.op (.pop (.deref 1)) [.v 1] <|
  T.op (.pop (.cell 0 1)) [.v 4] <|
  T.op (.bin .eql) [.v 2, .v 5] <|
  T.fin .ret [.v 6]
/-- slices.IndexFunc[[]assayer/api.SEnum,assayer/api.SEnum] -/
def t106 : T :=
  T.op (.pop (.len)) [.v 0] <|
  T.bind (.exit 0) (T.loop [.c (.int .i64 0)] <|
  T.op (.bin .lss) [.v 3, .v 2] <|
  T.ite (.v 4) (T.op (.pop (.elt 2)) [.v 0, .v 3] <|
  T.callv [54, 70, 89, 91, 100, 102, 105, 107] (.v 1) [.v 5] 1 <|
  T.ite (.v 6) (T.fin .ret [.v 3]) <|
  T.op (.bin .add) [.v 3, .c (.int .i64 1)] <|
  T.fin .normal [.v 7]) <|
  T.fin (.exit 0) []) 0 <|
  T.fin .ret [.c (.int .i64 (-1))]
/-- (assayer/inhabit.ranks).of -/
def t36 : T :=
  T.op (.pop (.cell 0 3)) [.v 1] <|
  T.op (.pop (.cell 1 3)) [.v 1] <|
  T.op (.pop (.cell 2 3)) [.v 1] <|
  T.call 74 [.v 2] 5 <|
  T.op (.bin .neq) [.v 10, .c (.int .i64 0)] <|
  T.ite (.v 11) (T.fin .ret [.c (.int .i64 (-1)), .v 0]) <|
  T.op (.bin .neq) [.v 6, .c (.int .i64 0)] <|
  T.ite (.v 12) (T.fin .ret [.c (.int .i64 0), .v 0]) <|
  T.call 76 [.v 1, .v 7] 2 <|
  T.op (.pop (.cell 0 2)) [.v 13] <|
  T.op (.pop (.cell 1 2)) [.v 13] <|
  T.ite (.v 14) (T.op (.pop (.len)) [.v 16] <|
  T.op (.bin .eql) [.v 17, .c (.int .i64 0)] <|
  T.ite (.v 18) (T.fin .ret [.c (.int .i64 (-1)), .v 0]) <|
  T.fin .ret [.c (.int .i64 0), .v 0]) <|
  T.op (.mget (.int .i64 0)) [.v 0, .v 7] <|
  T.op .mhas [.v 0, .v 7] <|
  T.op .no [.v 18] <|
  T.ite (.v 19) (T.fin .ret [.c (.int .i64 (-1)), .v 0]) <|
  T.fin .ret [.v 17, .v 0]
/-- (assayer/inhabit.ranks).one -/
def t35 : T :=
  T.op (.pop (.cell 0 3)) [.v 1] <|
  T.op (.pop (.cell 1 3)) [.v 1] <|
  T.op (.pop (.cell 2 3)) [.v 1] <|
  T.op (.pop (.cell 0 3)) [.v 2] <|
  T.op (.pop (.cell 1 3)) [.v 2] <|
  T.op (.pop (.cell 2 3)) [.v 2] <|
  T.op (.bin .eql) [.v 6, .c (.int .i64 5)] <|
  T.ite (.v 9) (T.call 73 [.v 0, .v 1, .v 2] 3 <|
  T.op (.bin .lss) [.v 11, .c (.int .i64 0)] <|
  T.ite (.v 13) (T.fin .ret [.c (.int .i64 (-1)), .v 12]) <|
  T.op (.bin .add) [.v 11, .c (.int .i64 1)] <|
  T.fin .ret [.v 14, .v 12]) <|
  T.op (.pop (.len)) [.v 8] <|
  T.bind (.exit 0) (T.loop [.c (.int .i64 0), .c (.int .i64 0), .v 0] <|
  T.op (.bin .lss) [.v 12, .v 10] <|
  T.ite (.v 14) (T.bind (.exit 1) (T.op (.pop (.elt 10)) [.v 8, .v 12] <|
  T.op (.pop (.cell 0 10)) [.v 15] <|
  T.op (.pop (.cell 1 10)) [.v 15] <|
  T.op (.pop (.cell 2 10)) [.v 15] <|
  T.op (.pop (.cell 3 10)) [.v 15] <|
  T.op (.pop (.cell 4 10)) [.v 15] <|
  T.op (.pop (.cell 5 10)) [.v 15] <|
  T.op (.pop (.cell 6 10)) [.v 15] <|
  T.op (.pop (.cell 7 10)) [.v 15] <|
  T.op (.pop (.cell 8 10)) [.v 15] <|
  T.op (.pop (.cell 9 10)) [.v 15] <|
  T.op (.bin .neq) [.v 17, .c (.int .i64 1)] <|
  T.ite (.v 26) (T.fin (.exit 1) [.v 11, .v 13]) <|
  T.call 36 [.v 13, .v 1, .v 18] 2 <|
  T.op (.bin .lss) [.v 27, .c (.int .i64 0)] <|
  T.ite (.v 29) (T.fin .ret [.c (.int .i64 (-1)), .v 28]) <|
  T.op (.mx true) [.v 11, .v 27] <|
  T.fin (.exit 1) [.v 30, .v 28]) 2 <|
  T.op (.bin .add) [.v 12, .c (.int .i64 1)] <|
  T.fin .normal [.v 15, .v 17, .v 16]) <|
  T.fin (.exit 0) [.v 11, .v 13]) 2 <|
  T.op (.bin .add) [.v 11, .c (.int .i64 1)] <|
  T.fin .ret [.v 13, .v 12]
/-- (assayer/inhabit.ranks).best -/
def t73 : T :=
  T.op (.pop (.cell 0 3)) [.v 1] <|
  T.op (.pop (.cell 1 3)) [.v 1] <|
  T.op (.pop (.cell 2 3)) [.v 1] <|
  T.op (.pop (.cell 0 3)) [.v 2] <|
  T.op (.pop (.cell 1 3)) [.v 2] <|
  T.op (.pop (.cell 2 3)) [.v 2] <|
  T.op (.pop (.len)) [.v 8] <|
  T.bind (.exit 0) (T.loop [.c (.int .i64 (-1)), .c (.int .i64 (-1)), .c (.int .i64 0), .v 0] <|
  T.op (.bin .lss) [.v 12, .v 9] <|
  T.ite (.v 14) (T.bind (.exit 1) (T.op (.pop (.elt 10)) [.v 8, .v 12] <|
  T.op (.pop (.cell 0 10)) [.v 15] <|
  T.op (.pop (.cell 1 10)) [.v 15] <|
  T.op (.pop (.cell 2 10)) [.v 15] <|
  T.op (.pop (.cell 3 10)) [.v 15] <|
  T.op (.pop (.cell 4 10)) [.v 15] <|
  T.op (.pop (.cell 5 10)) [.v 15] <|
  T.op (.pop (.cell 6 10)) [.v 15] <|
  T.op (.pop (.cell 7 10)) [.v 15] <|
  T.op (.pop (.cell 8 10)) [.v 15] <|
  T.op (.pop (.cell 9 10)) [.v 15] <|
  T.call 36 [.v 13, .v 1, .v 18] 2 <|
  T.op (.bin .geq) [.v 26, .c (.int .i64 0)] <|
  T.ite (.v 28) (T.op (.bin .lss) [.v 11, .c (.int .i64 0)] <|
  T.ite (.v 29) (T.fin (.exit 1) [.v 12, .v 26, .v 27]) <|
  T.op (.bin .lss) [.v 26, .v 11] <|
  T.ite (.v 30) (T.fin (.exit 1) [.v 12, .v 26, .v 27]) <|
  T.fin (.exit 1) [.v 10, .v 11, .v 27]) <|
  T.fin (.exit 1) [.v 10, .v 11, .v 27]) 3 <|
  T.op (.bin .add) [.v 12, .c (.int .i64 1)] <|
  T.fin .normal [.v 15, .v 16, .v 18, .v 17]) <|
  T.fin (.exit 0) [.v 10, .v 11, .v 13]) 3 <|
  T.fin .ret [.v 10, .v 11, .v 12]
def trees : List (Nat × Nat × T) := [(6, 1, t6), (15, 0, t15), (17, 1, t17), (16, 1, t16), (19, 2, t19), (37, 5, t37), (78, 5, t78), (32, 5, t32), (33, 2, t33), (75, 2, t75), (105, 2, t105), (104, 2, t104), (76, 2, t76), (107, 2, t107), (106, 2, t106), (36, 3, t36), (35, 3, t35), (73, 3, t73)]
def sigs : List (Nat × FSig) := [(16, ⟨false, true, [.dat], [.row 51]⟩), (17, ⟨false, true, [.dat], [.row 51]⟩), (32, ⟨false, false, [.ptr 74 true, .dat], [.dat]⟩), (34, ⟨false, false, [.row 72], [.row 72]⟩), (35, ⟨false, false, [.row 72, .dat, .dat], [.dat]⟩), (36, ⟨false, false, [.row 72, .dat, .dat], [.dat]⟩), (37, ⟨false, false, [.ptr 74 true, .dat], [.dat]⟩), (73, ⟨false, false, [.row 72, .dat, .dat], [.dat, .dat]⟩), (78, ⟨false, false, [.ptr 74 true, .dat], [.dat]⟩)]
def cellL : List (Nat × List (Option Nat)) := [(138, [none, none, none, some 9, none]), (130, [none, none, none]), (67, [none, none, none, none]), (74, [some 72, none, none, none])]
def valL : List Nat := [54, 70, 89, 91, 100, 102, 105, 107]
def cloneL : List Nat := [34]

/-- a name -/
def nm (i : Nat) : D := V.txt [97, 46, 65 + i / 26, 65 + i % 26]
def heads : List (D × List D) := (V.txt [105, 56], [.int .i64 3, V.txt [], V.txt [], V.txt [], .int .i64 0]) :: ([V.txt [97, 46, 65], V.txt [97, 46, 66]] ++ (List.range 41).map nm).map fun d => (d, [.int .i64 0, d, V.txt [], V.txt [], .int .i64 0])
def lookH (d : D) : List (D × List D) → Option (List D)
  | [] => none
  | (e, r) :: l => if V.beqD e d then some r else lookH d l
def known (f : Nat) (ds : List D) : Option (List D) :=
  match ds with
  | [d] => if Nat.beq f 74 then lookH d heads else none
  | _ => none
end Go.Proofs.Ytjofhegodknmaaa.Dbl
