/- TbinFields: the trees. -/
import Derived.Test.YtjofhegodknmaaaGreatGg
set_option linter.unusedSimpArgs false
set_option linter.unusedVariables false
namespace Go.Proofs.YtjofhegodknmaaaGreat.Tbf
open Go Go.RowKit
open W hiding R L
open V (D)
/-- assayer/assayerlaw19.TbinFields -/
def t3 : T :=
  T.op (.pop (.cell 0 4)) [.v 0] <|
  T.op (.pop (.cell 1 4)) [.v 0] <|
  T.op (.pop (.cell 2 4)) [.v 0] <|
  T.op (.pop (.cell 3 4)) [.v 0] <|
  T.call 6 [] 1 <|
  T.op .no [.v 6] <|
  T.ite (.v 7) (T.fin .ret [.c (.bool false)]) <|
  T.op (.pop (.len)) [.v 1] <|
  T.op (.bin .gtr) [.v 8, .c (.int .i64 8)] <|
  T.ite (.v 9) (T.fin .ret [.c (.bool true)]) <|
  T.op (.conv .i64) [.v 2] <|
  T.op (.pop (.mkAgg)) [.c (.int .i64 3), .v 10, .c (V.txt []), .c (.nil), .c (.nil)] <|
  T.op (.pop (.mkLst 5 true)) [.v 11] <|
  T.op (.pop (.cat 5 80 true)) [.c (.nil), .v 12] <|
  T.op (.conv .u8) [.v 2] <|
  T.op (.pop (.mkLst 1 false)) [.c (.int .u8 3), .c (.int .u8 0), .c (.int .u8 10), .v 14] <|
  T.op (.pop (.mkLst 1 false)) [.c (.int .u8 3), .c (.int .u8 0), .c (.int .u8 10), .v 14] <|
  T.op (.pop (.cat 1 1 false)) [.c (.lst []), .v 16] <|
  T.op (.pop (.mkLst 1 false)) [.v 17] <|
  T.op (.pop (.cat 1 24 false)) [.c (.nil), .v 18] <|
  T.op (.conv .i64) [.v 3] <|
  T.op (.pop (.mkAgg)) [.c (.int .i64 3), .v 20, .c (V.txt []), .c (.nil), .c (.nil)] <|
  T.op (.pop (.mkLst 5 true)) [.v 21] <|
  T.op (.pop (.cat 5 80 true)) [.v 13, .v 22] <|
  T.op (.conv .u8) [.v 3] <|
  T.op (.pop (.room 1 24)) [.v 19] <|
  T.op (.pop (.mkLst 1 false)) [.c (.int .u8 3), .c (.int .u8 0), .c (.int .u8 20), .v 24] <|
  T.op (.pop (.cat 1 1 false)) [.c (.lst []), .v 26] <|
  T.op (.pop (.mkLst 1 false)) [.v 27] <|
  T.op (.pop (.cat 1 24 false)) [.v 19, .v 28] <|
  T.op (.pop (.mkLst 1 false)) [.c (.int .u8 3), .c (.int .u8 0), .c (.int .u8 20), .v 24] <|
  T.op (.conv .i64) [.v 4] <|
  T.op (.pop (.mkAgg)) [.c (.int .i64 3), .v 31, .c (V.txt []), .c (.nil), .c (.nil)] <|
  T.op (.pop (.mkLst 5 true)) [.v 32] <|
  T.op (.pop (.cat 5 80 true)) [.v 23, .v 33] <|
  T.op (.conv .u8) [.v 4] <|
  T.op (.pop (.room 1 24)) [.v 29] <|
  T.op (.pop (.mkLst 1 false)) [.c (.int .u8 3), .c (.int .u8 0), .c (.int .u8 30), .v 35] <|
  T.op (.pop (.cat 1 1 false)) [.c (.lst []), .v 37] <|
  T.op (.pop (.mkLst 1 false)) [.v 38] <|
  T.op (.pop (.cat 1 24 false)) [.v 29, .v 39] <|
  T.op (.pop (.mkLst 1 false)) [.c (.int .u8 3), .c (.int .u8 0), .c (.int .u8 30), .v 35] <|
  T.op (.conv .i64) [.v 5] <|
  T.op (.pop (.mkAgg)) [.c (.int .i64 3), .v 42, .c (V.txt []), .c (.nil), .c (.nil)] <|
  T.op (.pop (.mkLst 5 true)) [.v 43] <|
  T.op (.pop (.cat 5 80 true)) [.v 34, .v 44] <|
  T.op (.conv .u8) [.v 5] <|
  T.op (.pop (.room 1 24)) [.v 40] <|
  T.op (.pop (.mkLst 1 false)) [.c (.int .u8 3), .c (.int .u8 0), .c (.int .u8 40), .v 46] <|
  T.op (.pop (.cat 1 1 false)) [.c (.lst []), .v 48] <|
  T.op (.pop (.mkLst 1 false)) [.v 49] <|
  T.op (.pop (.cat 1 24 false)) [.v 40, .v 50] <|
  T.op (.pop (.mkLst 1 false)) [.c (.int .u8 3), .c (.int .u8 0), .c (.int .u8 40), .v 46] <|
  T.bind (.exit 2) (T.loop [.c (.int .i64 0), .v 51] <|
  T.op (.bin .lss) [.v 53, .v 8] <|
  T.ite (.v 55) (T.bind (.exit 3) (T.op (.pop (.elt 1)) [.v 1, .v 53] <|
  T.op (.pop (.cell 0 1)) [.v 56] <|
  T.op (.conv .i64) [.v 57] <|
  T.op (.pop (.len)) [.v 54] <|
  T.op (.bin .rem) [.v 58, .v 59] <|
  T.op (.bin .quo) [.v 57, .c (.int .u8 16)] <|
  T.op (.conv .i64) [.v 61] <|
  T.op (.bin .rem) [.v 62, .v 59] <|
  T.op (.pop (.elt 1)) [.v 54, .v 63] <|
  T.op (.pop (.cell 0 1)) [.v 64] <|
  T.op (.pop (.elt 1)) [.v 54, .v 60] <|
  T.op (.pop (.cell 0 1)) [.v 66] <|
  T.op (.pop (.upd 1 0 false)) [.v 54, .v 60, .v 65] <|
  T.op (.pop (.elt 1)) [.v 68, .v 63] <|
  T.op (.pop (.upd 1 0 false)) [.v 68, .v 63, .v 67] <|
  T.op (.bin .rem) [.v 57, .c (.int .u8 3)] <|
  T.op (.bin .eql) [.v 71, .c (.int .u8 0)] <|
  T.ite (.v 72) (T.op (.bin .rem) [.v 57, .c (.int .u8 9)] <|
  T.op (.bin .add) [.v 73, .c (.int .u8 1)] <|
  T.op (.pop (.room 1 24)) [.v 70] <|
  T.op (.pop (.mkLst 1 false)) [.c (.int .u8 11), .c (.int .u8 0), .v 74, .c (.int .u8 0), .c (.int .u8 0), .c (.int .u8 0), .c (.int .u8 1), .c (.int .u8 120)] <|
  T.op (.pop (.cat 1 1 false)) [.c (.lst []), .v 76] <|
  T.op (.pop (.mkLst 1 false)) [.v 77] <|
  T.op (.pop (.cat 1 24 false)) [.v 70, .v 78] <|
  T.op (.pop (.mkLst 1 false)) [.c (.int .u8 11), .c (.int .u8 0), .v 74, .c (.int .u8 0), .c (.int .u8 0), .c (.int .u8 0), .c (.int .u8 1), .c (.int .u8 120)] <|
  T.fin (.exit 3) [.v 79]) <|
  T.fin (.exit 3) [.v 70]) 1 <|
  T.op (.bin .add) [.v 53, .c (.int .i64 1)] <|
  T.fin .normal [.v 57, .v 56]) <|
  T.fin (.exit 2) [.v 54]) 1 <|
  T.bind (.exit 4) (T.loop [.c (.int .i64 0), .c (.nil)] <|
  T.op (.pop (.len)) [.v 53] <|
  T.op (.bin .lss) [.v 54, .v 56] <|
  T.ite (.v 57) (T.op (.pop (.elt 1)) [.v 53, .v 54] <|
  T.op (.pop (.cell 0 1)) [.v 58] <|
  T.op (.pop (.cat 1 1 false)) [.v 55, .v 59] <|
  T.op (.bin .add) [.v 54, .c (.int .i64 1)] <|
  T.fin .normal [.v 61, .v 60]) <|
  T.fin (.exit 4) [.v 55]) 1 <|
  T.op (.pop (.cat 1 1 false)) [.v 54, .c (.lst [.int .u8 0])] <|
  T.op (.pop (.len)) [.v 55] <|
  T.op (.pop (.mkAgg)) [.c (.int .i64 1), .v 56] <|
  T.call 7 [.c (.agg [.nil, .nil, .nil]), .c (.agg [.int .i64 4, V.txt [], .lst [.agg [.int .i64 10, .int .i64 0, V.txt [105, 56], V.txt [], .bool false, .int .i64 0, .int .i64 0, V.txt [], .nil, .nil], .agg [.int .i64 20, .int .i64 1, V.txt [105, 56], V.txt [], .bool false, .int .i64 0, .int .i64 0, V.txt [], .nil, .nil], .agg [.int .i64 30, .int .i64 0, V.txt [105, 56], V.txt [], .bool false, .int .i64 0, .int .i64 0, V.txt [], .nil, .nil], .agg [.int .i64 40, .int .i64 1, V.txt [105, 56], V.txt [], .bool false, .int .i64 0, .int .i64 0, V.txt [], .nil, .nil]]]), .v 55, .v 57] 3 <|
  T.op (.pop (.cell 0 5)) [.v 58] <|
  T.op (.pop (.cell 1 5)) [.v 58] <|
  T.op (.pop (.cell 2 5)) [.v 58] <|
  T.op (.pop (.cell 3 5)) [.v 58] <|
  T.op (.pop (.cell 4 5)) [.v 58] <|
  T.bind .normal (T.op (.bin .eql) [.v 60, .c (.int .i64 0)] <|
  T.ite (.v 66) (T.op (.bin .eql) [.v 59, .v 56] <|
  T.ite (.v 67) (T.op (.pop (.mkAgg)) [.c (.int .i64 12), .c (.int .i64 0), .c (V.txt []), .v 45, .c (.lst [.int .i64 10, .int .i64 20, .int .i64 30, .int .i64 40])] <|
  T.call 8 [.v 68, .v 58] 1 <|
  T.fin .normal [.v 69]) <|
  T.fin .normal [.c (.bool false)]) <|
  T.fin .normal [.c (.bool false)]) 1 <|
  T.fin .ret [.v 66]
/-- assayer/tbin.DecodeAs -/
def t7 : T :=
  T.op (.pop (.cell 0 3)) [.v 0] <|
  T.op (.pop (.cell 1 3)) [.v 0] <|
  T.op (.pop (.cell 2 3)) [.v 0] <|
  T.op (.pop (.cell 0 3)) [.v 1] <|
  T.op (.pop (.cell 1 3)) [.v 1] <|
  T.op (.pop (.cell 2 3)) [.v 1] <|
  T.op (.pop (.cell 0 2)) [.v 3] <|
  T.op (.pop (.cell 1 2)) [.v 3] <|
  T.op (.pop (.cell 0 1)) [.v 2] <|
  T.call 18 [.v 12, .c (.int .i64 0), .v 10, .v 11, .c (.int .i64 0), .v 4, .v 5, .v 6, .v 1, .c (.int .i64 1)] 9 <|
  T.op (.pop (.cell 0 5)) [.v 13] <|
  T.op (.pop (.cell 1 5)) [.v 13] <|
  T.op (.pop (.cell 2 5)) [.v 13] <|
  T.op (.pop (.cell 3 5)) [.v 13] <|
  T.op (.pop (.cell 4 5)) [.v 13] <|
  T.call 19 [.v 14, .v 15, .v 16, .v 17, .v 18, .v 19, .v 20, .v 21, .v 13] 11 <|
  T.op (.pop (.cell 0 5)) [.v 27] <|
  T.op (.pop (.cell 1 5)) [.v 27] <|
  T.op (.pop (.cell 2 5)) [.v 27] <|
  T.op (.pop (.cell 3 5)) [.v 27] <|
  T.op (.pop (.cell 4 5)) [.v 27] <|
  T.fin .ret [.v 27, .v 28, .v 29]
/-- (*assayer/tbin.reader).fields -/
def t18 : T :=
  T.op (.pop (.cell 0 3)) [.v 8] <|
  T.op (.pop (.cell 1 3)) [.v 8] <|
  T.op (.pop (.cell 2 3)) [.v 8] <|
  T.op (.bin .gtr) [.v 9, .v 2] <|
  T.call 46 [.v 0, .v 1, .v 2, .v 3, .v 4, .v 5, .v 6, .v 7, .v 13, .c (.int .i64 6)] 8 <|
  T.bind (.exit 0) (T.loop [.v 9, .c (.bool false), .v 14, .v 15, .v 16, .v 17, .v 18, .v 19, .v 20, .v 21, .v 10, .v 11, .v 12, .c (.int .i64 0), .c (.int .i64 0), .c (V.txt []), .c (.int .i64 12), .c (.int .i64 0), .c (V.txt []), .c (.nil), .c (.nil)] <|
  T.call 45 [.v 24, .v 25, .v 26, .v 27, .v 28, .v 29, .v 30, .v 31] 9 <|
  T.ite (.v 43) (T.bind (.exit 1) (T.call 47 [.v 44, .v 45, .v 46, .v 47, .v 48, .v 49, .v 50, .v 51, .c (.int .i64 1)] 9 <|
  T.op (.conv .i64) [.v 52] <|
  T.call 45 [.v 53, .v 54, .v 55, .v 56, .v 57, .v 58, .v 59, .v 60] 9 <|
  T.op .no [.v 62] <|
  T.ite (.v 71) (T.fin (.exit 0) [.v 23, .v 63, .v 64, .v 65, .v 66, .v 67, .v 68, .v 69, .v 70, .v 32, .v 33, .v 34, .v 35, .v 36, .v 37, .v 38, .v 39, .v 40, .v 41, .v 42]) <|
  T.op (.bin .eql) [.v 61, .c (.int .i64 0)] <|
  T.ite (.v 72) (T.fin (.exit 0) [.v 23, .v 63, .v 64, .v 65, .v 66, .v 67, .v 68, .v 69, .v 70, .v 32, .v 33, .v 34, .v 35, .v 36, .v 37, .v 38, .v 39, .v 40, .v 41, .v 42]) <|
  T.call 48 [.v 61] 1 <|
  T.call 46 [.v 63, .v 64, .v 65, .v 66, .v 67, .v 68, .v 69, .v 70, .v 73, .c (.int .i64 2)] 8 <|
  T.call 47 [.v 74, .v 75, .v 76, .v 77, .v 78, .v 79, .v 80, .v 81, .c (.int .i64 2)] 9 <|
  T.op (.conv .i16) [.v 82] <|
  T.op (.conv .i64) [.v 91] <|
  T.op (.pop (.mkAgg)) [.v 32, .v 33, .v 34] <|
  T.call 49 [.v 93, .v 92] 2 <|
  T.op (.pop (.cell 0 10)) [.v 94] <|
  T.op (.pop (.cell 1 10)) [.v 94] <|
  T.op (.pop (.cell 2 10)) [.v 94] <|
  T.op (.pop (.cell 3 10)) [.v 94] <|
  T.op (.pop (.cell 4 10)) [.v 94] <|
  T.op (.pop (.cell 5 10)) [.v 94] <|
  T.op (.pop (.cell 6 10)) [.v 94] <|
  T.op (.pop (.cell 7 10)) [.v 94] <|
  T.op (.pop (.cell 8 10)) [.v 94] <|
  T.op (.pop (.cell 9 10)) [.v 94] <|
  T.op .no [.v 95] <|
  T.ite (.v 106) (T.op (.bin .add) [.v 22, .c (.int .i64 1)] <|
  T.call 44 [.v 83, .v 84, .v 85, .v 86, .v 87, .v 88, .v 89, .v 90, .v 61, .v 107] 8 <|
  T.fin (.exit 1) [.c (.bool true), .v 61, .v 108, .v 109, .v 110, .v 111, .v 112, .v 113, .v 114, .v 115, .v 41, .v 42]) <|
  T.call 50 [.v 83, .v 84, .v 85, .v 86, .v 87, .v 88, .v 89, .v 90, .v 61, .v 98] 8 <|
  T.call 51 [.v 42, .v 92] 1 <|
  T.call 46 [.v 107, .v 108, .v 109, .v 110, .v 111, .v 112, .v 113, .v 114, .v 115, .c (.int .i64 8)] 8 <|
  T.op (.pop (.mkLst 1 false)) [.v 92] <|
  T.op (.pop (.cat 1 8 false)) [.v 42, .v 124] <|
  T.op (.bin .add) [.v 22, .c (.int .i64 1)] <|
  T.call 41 [.v 116, .v 117, .v 118, .v 119, .v 120, .v 121, .v 122, .v 123, .v 98, .v 126] 9 <|
  T.op (.pop (.cell 0 5)) [.v 127] <|
  T.op (.pop (.cell 1 5)) [.v 127] <|
  T.op (.pop (.cell 2 5)) [.v 127] <|
  T.op (.pop (.cell 3 5)) [.v 127] <|
  T.op (.pop (.cell 4 5)) [.v 127] <|
  T.op (.pop (.mkLst 5 true)) [.v 127] <|
  T.op (.pop (.cat 5 80 true)) [.v 41, .v 141] <|
  T.fin (.exit 1) [.v 23, .v 61, .v 128, .v 129, .v 130, .v 131, .v 132, .v 133, .v 134, .v 135, .v 142, .v 125]) 12 <|
  T.fin .normal [.v 22, .v 52, .v 54, .v 55, .v 56, .v 57, .v 58, .v 59, .v 60, .v 61, .v 32, .v 33, .v 34, .v 35, .v 36, .v 37, .v 38, .v 39, .v 40, .v 62, .v 63]) <|
  T.fin (.exit 0) [.v 23, .v 44, .v 45, .v 46, .v 47, .v 48, .v 49, .v 50, .v 51, .v 32, .v 33, .v 34, .v 35, .v 36, .v 37, .v 38, .v 39, .v 40, .v 41, .v 42]) 20 <|
  T.op (.pop (.mkAgg)) [.v 31, .v 32, .v 33] <|
  T.op (.pop (.mkAgg)) [.v 37, .v 38, .v 39, .v 40, .v 41] <|
  T.call 52 [.v 23, .v 24, .v 25, .v 26, .v 27, .v 28, .v 29, .v 30, .v 42, .v 43, .v 22] 8 <|
  T.call 45 [.v 44, .v 45, .v 46, .v 47, .v 48, .v 49, .v 50, .v 51] 9 <|
  T.op .no [.v 52] <|
  T.ite (.v 61) (T.fin .ret [.v 43, .v 53, .v 54, .v 55, .v 56, .v 57, .v 58, .v 59, .v 60]) <|
  T.call 53 [.v 53, .v 54, .v 55, .v 56, .v 57, .v 58, .v 59, .v 60, .v 43] 9 <|
  T.op (.pop (.cell 0 5)) [.v 62] <|
  T.op (.pop (.cell 1 5)) [.v 62] <|
  T.op (.pop (.cell 2 5)) [.v 62] <|
  T.op (.pop (.cell 3 5)) [.v 62] <|
  T.op (.pop (.cell 4 5)) [.v 62] <|
  T.fin .ret [.v 62, .v 63, .v 64, .v 65, .v 66, .v 67, .v 68, .v 69, .v 70]
/-- (*assayer/tbin.reader).done -/
def t19 : T :=
  T.op (.pop (.cell 0 5)) [.v 8] <|
  T.op (.pop (.cell 1 5)) [.v 8] <|
  T.op (.pop (.cell 2 5)) [.v 8] <|
  T.op (.pop (.cell 3 5)) [.v 8] <|
  T.op (.pop (.cell 4 5)) [.v 8] <|
  T.call 45 [.v 0, .v 1, .v 2, .v 3, .v 4, .v 5, .v 6, .v 7] 9 <|
  T.op .no [.v 14] <|
  T.ite (.v 23) (T.fin .ret [.c (.agg [.int .i64 0, .int .i64 0, V.txt [], .nil, .nil]), .c (.int .i64 0), .v 19, .v 15, .v 16, .v 17, .v 18, .v 19, .v 20, .v 21, .v 22]) <|
  T.fin .ret [.v 8, .v 16, .c (.int .i64 0), .v 15, .v 16, .v 17, .v 18, .v 19, .v 20, .v 21, .v 22]
/-- (*assayer/tbin.reader).value -/
def t41 : T :=
  T.call 68 [.v 8] 5 <|
  T.op (.pop (.mkAgg)) [.v 5, .v 6, .v 7] <|
  T.call 61 [.v 15, .v 8] 1 <|
  T.op (.pop (.cell 0 1)) [.v 16] <|
  T.call 45 [.v 0, .v 1, .v 2, .v 3, .v 4, .v 5, .v 6, .v 7] 9 <|
  T.op .no [.v 18] <|
  T.ite (.v 27) (T.op (.pop (.mkAgg)) [.v 17, .c (.int .i64 0), .c (V.txt []), .c (.nil), .c (.nil)] <|
  T.fin .ret [.v 28, .v 19, .v 20, .v 21, .v 22, .v 23, .v 24, .v 25, .v 26]) <|
  T.bind (.exit 0) (T.op (.bin .eql) [.v 17, .c (.int .i64 2)] <|
  T.ite (.v 28) (T.call 47 [.v 19, .v 20, .v 21, .v 22, .v 23, .v 24, .v 25, .v 26, .c (.int .i64 1)] 9 <|
  T.op (.conv .i64) [.v 29] <|
  T.op (.bin .gtr) [.v 38, .c (.int .i64 1)] <|
  T.call 46 [.v 30, .v 31, .v 32, .v 33, .v 34, .v 35, .v 36, .v 37, .v 39, .c (.int .i64 2)] 8 <|
  T.fin (.exit 0) [.v 40, .v 41, .v 42, .v 43, .v 44, .v 45, .v 46, .v 47, .v 38, .c (V.txt [])]) <|
  T.op (.bin .eql) [.v 17, .c (.int .i64 17)] <|
  T.ite (.v 29) (T.call 47 [.v 19, .v 20, .v 21, .v 22, .v 23, .v 24, .v 25, .v 26, .c (.int .i64 4)] 9 <|
  T.call 95 [.v 30, .c (.int .i64 4)] 1 <|
  T.op (.pop (.cell 0 1)) [.v 39] <|
  T.op (.pop (.mkAgg)) [.v 36, .v 37, .v 38] <|
  T.call 70 [.v 41, .v 11] 2 <|
  T.op (.pop (.cell 0 2)) [.v 42] <|
  T.op (.pop (.cell 1 2)) [.v 42] <|
  T.op (.pop (.mkFp)) [.v 17, .v 40, .c (V.txt []), .c (.nil), .c (.nil)] <|
  T.op (.pop (.mkFn 96)) [.v 46] <|
  T.call 87 [.v 45, .v 47] 1 <|
  T.op .no [.v 48] <|
  T.call 46 [.v 31, .v 32, .v 33, .v 34, .v 35, .v 36, .v 37, .v 38, .v 49, .c (.int .i64 12)] 8 <|
  T.fin (.exit 0) [.v 50, .v 51, .v 52, .v 53, .v 54, .v 55, .v 56, .v 57, .v 40, .c (V.txt [])]) <|
  T.bind .normal (T.op (.bin .eql) [.v 17, .c (.int .i64 11)] <|
  T.ite (.v 30) (T.fin .normal [.c (.bool true)]) <|
  T.op (.bin .eql) [.v 17, .c (.int .i64 16)] <|
  T.fin .normal [.v 31]) 1 <|
  T.ite (.v 30) (T.call 98 [.v 19, .v 20, .v 21, .v 22, .v 23, .v 24, .v 25, .v 26] 9 <|
  T.call 97 [.v 32, .v 33, .v 34, .v 35, .v 36, .v 37, .v 38, .v 39, .v 31] 9 <|
  T.op .text [.v 40] <|
  T.op (.bin .eql) [.v 17, .c (.int .i64 11)] <|
  T.ite (.v 50) (T.call 84 [.v 49] 1 <|
  T.op .no [.v 51] <|
  T.call 46 [.v 41, .v 42, .v 43, .v 44, .v 45, .v 46, .v 47, .v 48, .v 52, .c (.int .i64 2)] 8 <|
  T.fin (.exit 0) [.v 53, .v 54, .v 55, .v 56, .v 57, .v 58, .v 59, .v 60, .c (.int .i64 0), .v 49]) <|
  T.call 46 [.v 41, .v 42, .v 43, .v 44, .v 45, .v 46, .v 47, .v 48, .c (.bool false), .c (.int .i64 2)] 8 <|
  T.fin (.exit 0) [.v 51, .v 52, .v 53, .v 54, .v 55, .v 56, .v 57, .v 58, .c (.int .i64 0), .v 49]) <|
  T.bind .normal (T.op (.bin .eql) [.v 17, .c (.int .i64 15)] <|
  T.ite (.v 31) (T.fin .normal [.c (.bool true)]) <|
  T.op (.bin .eql) [.v 17, .c (.int .i64 14)] <|
  T.ite (.v 32) (T.fin .normal [.c (.bool true)]) <|
  T.op (.bin .eql) [.v 17, .c (.int .i64 13)] <|
  T.fin .normal [.v 33]) 1 <|
  T.ite (.v 31) (T.op (.bin .gtr) [.v 9, .v 21] <|
  T.call 46 [.v 19, .v 20, .v 21, .v 22, .v 23, .v 24, .v 25, .v 26, .v 32, .c (.int .i64 6)] 8 <|
  T.call 99 [.v 33, .v 34, .v 35, .v 36, .v 37, .v 38, .v 39, .v 40, .v 17, .v 12, .v 13, .v 9] 9 <|
  T.op (.pop (.cell 0 5)) [.v 41] <|
  T.op (.pop (.cell 1 5)) [.v 41] <|
  T.op (.pop (.cell 2 5)) [.v 41] <|
  T.op (.pop (.cell 3 5)) [.v 41] <|
  T.op (.pop (.cell 4 5)) [.v 41] <|
  T.fin .ret [.v 41, .v 42, .v 43, .v 44, .v 45, .v 46, .v 47, .v 48, .v 49]) <|
  T.op (.bin .eql) [.v 17, .c (.int .i64 12)] <|
  T.ite (.v 32) (T.op (.pop (.mkAgg)) [.v 24, .v 25, .v 26] <|
  T.call 74 [.v 33, .v 11] 2 <|
  T.op (.pop (.cell 0 3)) [.v 34] <|
  T.op (.pop (.cell 1 3)) [.v 34] <|
  T.op (.pop (.cell 2 3)) [.v 34] <|
  T.call 18 [.v 19, .v 20, .v 21, .v 22, .v 23, .v 24, .v 25, .v 26, .v 34, .v 9] 9 <|
  T.op (.pop (.cell 0 5)) [.v 39] <|
  T.op (.pop (.cell 1 5)) [.v 39] <|
  T.op (.pop (.cell 2 5)) [.v 39] <|
  T.op (.pop (.cell 3 5)) [.v 39] <|
  T.op (.pop (.cell 4 5)) [.v 39] <|
  T.fin .ret [.v 39, .v 40, .v 41, .v 42, .v 43, .v 44, .v 45, .v 46, .v 47]) <|
  T.call 90 [.v 17] 1 <|
  T.call 47 [.v 19, .v 20, .v 21, .v 22, .v 23, .v 24, .v 25, .v 26, .v 33] 9 <|
  T.call 95 [.v 34, .v 33] 1 <|
  T.op (.pop (.cell 0 1)) [.v 43] <|
  T.fin (.exit 0) [.v 35, .v 36, .v 37, .v 38, .v 39, .v 40, .v 41, .v 42, .v 44, .c (V.txt [])]) 10 <|
  T.op (.pop (.mkAgg)) [.v 17, .v 36, .v 37, .c (.nil), .c (.nil)] <|
  T.fin .ret [.v 38, .v 28, .v 29, .v 30, .v 31, .v 32, .v 33, .v 34, .v 35]
/-- (*assayer/tbin.cursor).skip -/
def t44 : T :=
  T.call 48 [.v 8] 1 <|
  T.call 46 [.v 0, .v 1, .v 2, .v 3, .v 4, .v 5, .v 6, .v 7, .v 10, .c (.int .i64 2)] 8 <|
  T.bind (.exit 0) (T.call 45 [.v 11, .v 12, .v 13, .v 14, .v 15, .v 16, .v 17, .v 18] 9 <|
  T.op .no [.v 19] <|
  T.ite (.v 28) (T.fin (.exit 0) [.v 20, .v 21, .v 22, .v 23, .v 24, .v 25, .v 26, .v 27]) <|
  T.call 90 [.v 8] 1 <|
  T.op (.bin .gtr) [.v 29, .c (.int .i64 0)] <|
  T.ite (.v 30) (T.call 90 [.v 8] 1 <|
  T.call 47 [.v 20, .v 21, .v 22, .v 23, .v 24, .v 25, .v 26, .v 27, .v 31] 9 <|
  T.fin (.exit 0) [.v 33, .v 34, .v 35, .v 36, .v 37, .v 38, .v 39, .v 40]) <|
  T.op (.bin .eql) [.v 8, .c (.int .i64 11)] <|
  T.ite (.v 31) (T.call 98 [.v 20, .v 21, .v 22, .v 23, .v 24, .v 25, .v 26, .v 27] 9 <|
  T.call 97 [.v 33, .v 34, .v 35, .v 36, .v 37, .v 38, .v 39, .v 40, .v 32] 9 <|
  T.fin (.exit 0) [.v 42, .v 43, .v 44, .v 45, .v 46, .v 47, .v 48, .v 49]) <|
  T.op (.bin .gtr) [.v 9, .v 22] <|
  T.call 46 [.v 20, .v 21, .v 22, .v 23, .v 24, .v 25, .v 26, .v 27, .v 32, .c (.int .i64 6)] 8 <|
  T.call 100 [.v 33, .v 34, .v 35, .v 36, .v 37, .v 38, .v 39, .v 40, .v 8, .v 9] 8 <|
  T.fin (.exit 0) [.v 41, .v 42, .v 43, .v 44, .v 45, .v 46, .v 47, .v 48]) 8 <|
  T.fin .ret [.v 19, .v 20, .v 21, .v 22, .v 23, .v 24, .v 25, .v 26]
/-- (*assayer/tbin.cursor).ok -/
def t45 : T :=
  T.op (.bin .eql) [.v 4, .c (.int .i64 0)] <|
  T.fin .ret [.v 8, .v 0, .v 1, .v 2, .v 3, .v 4, .v 5, .v 6, .v 7]
/-- (*assayer/tbin.cursor).fails -/
def t46 : T :=
  T.ite (.v 8) (T.op (.bin .eql) [.v 4, .c (.int .i64 0)] <|
  T.ite (.v 10) (T.op (.pop (.cell 0 1)) [.v 9] <|
  T.fin .ret [.v 0, .v 1, .v 2, .v 3, .v 11, .v 5, .v 6, .v 7]) <|
  T.fin .ret [.v 0, .v 1, .v 2, .v 3, .v 4, .v 5, .v 6, .v 7]) <|
  T.fin .ret [.v 0, .v 1, .v 2, .v 3, .v 4, .v 5, .v 6, .v 7]
/-- (*assayer/tbin.cursor).num -/
def t47 : T :=
  T.op (.conv .u64) [.v 8] <|
  T.call 97 [.v 0, .v 1, .v 2, .v 3, .v 4, .v 5, .v 6, .v 7, .v 9] 9 <|
  T.call 101 [.v 10, .v 8] 2 <|
  T.fin .ret [.v 19, .v 11, .v 12, .v 13, .v 14, .v 15, .v 16, .v 17, .v 18]
/-- assayer/tbin.none -/
def t48 : T :=
  T.call 51 [.c (.lst [.int .i64 2, .int .i64 3, .int .i64 4, .int .i64 6, .int .i64 8, .int .i64 10, .int .i64 11, .int .i64 12, .int .i64 13, .int .i64 14, .int .i64 15]), .v 0] 1 <|
  T.op .no [.v 1] <|
  T.fin .ret [.v 2]
/-- assayer/value.Field -/
def t49 : T :=
  T.op (.pop (.cell 0 3)) [.v 0] <|
  T.op (.pop (.cell 1 3)) [.v 0] <|
  T.op (.pop (.cell 2 3)) [.v 0] <|
  T.op (.pop (.cell 0 1)) [.v 1] <|
  T.op (.pop (.mkFp)) [.v 5] <|
  T.op (.pop (.mkFn 103)) [.v 6] <|
  T.call 102 [.v 4, .v 7] 1 <|
  T.op (.bin .lss) [.v 8, .c (.int .i64 0)] <|
  T.ite (.v 9) (T.fin .ret [.c (.agg [.int .i64 0, .int .i64 0, V.txt [], V.txt [], .bool false, .int .i64 0, .int .i64 0, V.txt [], .nil, .nil]), .c (.bool false)]) <|
  T.op (.pop (.elt 10)) [.v 4, .v 8] <|
  T.op (.pop (.cell 0 10)) [.v 10] <|
  T.op (.pop (.cell 1 10)) [.v 10] <|
  T.op (.pop (.cell 2 10)) [.v 10] <|
  T.op (.pop (.cell 3 10)) [.v 10] <|
  T.op (.pop (.cell 4 10)) [.v 10] <|
  T.op (.pop (.cell 5 10)) [.v 10] <|
  T.op (.pop (.cell 6 10)) [.v 10] <|
  T.op (.pop (.cell 7 10)) [.v 10] <|
  T.op (.pop (.cell 8 10)) [.v 10] <|
  T.op (.pop (.cell 9 10)) [.v 10] <|
  T.fin .ret [.v 10, .c (.bool true)]
/-- (*assayer/tbin.reader).is -/
def t50 : T :=
  T.op (.pop (.mkAgg)) [.v 5, .v 6, .v 7] <|
  T.call 61 [.v 10, .v 9] 1 <|
  T.call 89 [.v 11] 1 <|
  T.op (.bin .neq) [.v 8, .v 12] <|
  T.call 46 [.v 0, .v 1, .v 2, .v 3, .v 4, .v 5, .v 6, .v 7, .v 13, .c (.int .i64 10)] 8 <|
  T.fin .ret [.v 14, .v 15, .v 16, .v 17, .v 18, .v 19, .v 20, .v 21]
/-- slices.Contains[[]int,int] -/
def t51 : T :=
  T.call 104 [.v 0, .v 1] 1 <|
  T.op (.bin .geq) [.v 2, .c (.int .i64 0)] <|
  T.fin .ret [.v 3]
/-- (*assayer/tbin.reader).whole -/
def t52 : T :=
  T.op (.pop (.cell 0 3)) [.v 8] <|
  T.op (.pop (.cell 1 3)) [.v 8] <|
  T.op (.pop (.cell 2 3)) [.v 8] <|
  T.op (.pop (.cell 0 5)) [.v 9] <|
  T.op (.pop (.cell 1 5)) [.v 9] <|
  T.op (.pop (.cell 2 5)) [.v 9] <|
  T.op (.pop (.cell 3 5)) [.v 9] <|
  T.op (.pop (.cell 4 5)) [.v 9] <|
  T.op (.pop (.len)) [.v 13] <|
  T.bind (.exit 0) (T.loop [.c (.int .i64 0), .v 0, .v 1, .v 2, .v 3, .v 4, .v 5, .v 6, .v 7] <|
  T.op (.bin .lss) [.v 20, .v 19] <|
  T.ite (.v 29) (T.bind (.exit 1) (T.op (.pop (.elt 10)) [.v 13, .v 20] <|
  T.op (.pop (.cell 0 10)) [.v 30] <|
  T.op (.pop (.cell 1 10)) [.v 30] <|
  T.op (.pop (.cell 2 10)) [.v 30] <|
  T.op (.pop (.cell 3 10)) [.v 30] <|
  T.op (.pop (.cell 4 10)) [.v 30] <|
  T.op (.pop (.cell 5 10)) [.v 30] <|
  T.op (.pop (.cell 6 10)) [.v 30] <|
  T.op (.pop (.cell 7 10)) [.v 30] <|
  T.op (.pop (.cell 8 10)) [.v 30] <|
  T.op (.pop (.cell 9 10)) [.v 30] <|
  T.op (.bin .eql) [.v 32, .c (.int .i64 1)] <|
  T.ite (.v 41) (T.call 51 [.v 18, .v 31] 1 <|
  T.op .no [.v 42] <|
  T.call 46 [.v 21, .v 22, .v 23, .v 24, .v 25, .v 26, .v 27, .v 28, .v 43, .c (.int .i64 14)] 8 <|
  T.fin (.exit 1) [.v 44, .v 45, .v 46, .v 47, .v 48, .v 49, .v 50, .v 51]) <|
  T.call 46 [.v 21, .v 22, .v 23, .v 24, .v 25, .v 26, .v 27, .v 28, .c (.bool false), .c (.int .i64 14)] 8 <|
  T.fin (.exit 1) [.v 42, .v 43, .v 44, .v 45, .v 46, .v 47, .v 48, .v 49]) 8 <|
  T.op (.bin .add) [.v 20, .c (.int .i64 1)] <|
  T.fin .normal [.v 38, .v 30, .v 31, .v 32, .v 33, .v 34, .v 35, .v 36, .v 37]) <|
  T.fin (.exit 0) [.v 21, .v 22, .v 23, .v 24, .v 25, .v 26, .v 27, .v 28]) 8 <|
  T.op (.bin .eql) [.v 11, .c (.int .i64 5)] <|
  T.ite (.v 28) (T.ite (.v 10) (T.call 46 [.v 20, .v 21, .v 22, .v 23, .v 24, .v 25, .v 26, .v 27, .c (.bool true), .c (.int .i64 14)] 8 <|
  T.fin .ret [.v 29, .v 30, .v 31, .v 32, .v 33, .v 34, .v 35, .v 36]) <|
  T.op (.pop (.len)) [.v 18] <|
  T.op (.bin .gtr) [.v 29, .c (.int .i64 1)] <|
  T.ite (.v 30) (T.call 46 [.v 20, .v 21, .v 22, .v 23, .v 24, .v 25, .v 26, .v 27, .c (.bool true), .c (.int .i64 14)] 8 <|
  T.fin .ret [.v 31, .v 32, .v 33, .v 34, .v 35, .v 36, .v 37, .v 38]) <|
  T.op (.bin .eql) [.v 11, .c (.int .i64 5)] <|
  T.ite (.v 31) (T.op (.bin .eql) [.v 29, .c (.int .i64 0)] <|
  T.call 46 [.v 20, .v 21, .v 22, .v 23, .v 24, .v 25, .v 26, .v 27, .v 32, .c (.int .i64 14)] 8 <|
  T.fin .ret [.v 33, .v 34, .v 35, .v 36, .v 37, .v 38, .v 39, .v 40]) <|
  T.call 46 [.v 20, .v 21, .v 22, .v 23, .v 24, .v 25, .v 26, .v 27, .c (.bool false), .c (.int .i64 14)] 8 <|
  T.fin .ret [.v 32, .v 33, .v 34, .v 35, .v 36, .v 37, .v 38, .v 39]) <|
  T.op (.bin .eql) [.v 11, .c (.int .i64 8)] <|
  T.ite (.v 29) (T.ite (.v 10) (T.call 46 [.v 20, .v 21, .v 22, .v 23, .v 24, .v 25, .v 26, .v 27, .c (.bool true), .c (.int .i64 14)] 8 <|
  T.fin .ret [.v 30, .v 31, .v 32, .v 33, .v 34, .v 35, .v 36, .v 37]) <|
  T.op (.pop (.len)) [.v 18] <|
  T.op (.bin .gtr) [.v 30, .c (.int .i64 1)] <|
  T.ite (.v 31) (T.call 46 [.v 20, .v 21, .v 22, .v 23, .v 24, .v 25, .v 26, .v 27, .c (.bool true), .c (.int .i64 14)] 8 <|
  T.fin .ret [.v 32, .v 33, .v 34, .v 35, .v 36, .v 37, .v 38, .v 39]) <|
  T.op (.bin .eql) [.v 11, .c (.int .i64 5)] <|
  T.ite (.v 32) (T.op (.bin .eql) [.v 30, .c (.int .i64 0)] <|
  T.call 46 [.v 20, .v 21, .v 22, .v 23, .v 24, .v 25, .v 26, .v 27, .v 33, .c (.int .i64 14)] 8 <|
  T.fin .ret [.v 34, .v 35, .v 36, .v 37, .v 38, .v 39, .v 40, .v 41]) <|
  T.call 46 [.v 20, .v 21, .v 22, .v 23, .v 24, .v 25, .v 26, .v 27, .c (.bool false), .c (.int .i64 14)] 8 <|
  T.fin .ret [.v 33, .v 34, .v 35, .v 36, .v 37, .v 38, .v 39, .v 40]) <|
  T.fin .ret [.v 20, .v 21, .v 22, .v 23, .v 24, .v 25, .v 26, .v 27]
/-- (*assayer/tbin.reader).normal -/
def t53 : T :=
  T.op (.pop (.cell 0 5)) [.v 8] <|
  T.op (.pop (.cell 1 5)) [.v 8] <|
  T.op (.pop (.cell 2 5)) [.v 8] <|
  T.op (.pop (.cell 3 5)) [.v 8] <|
  T.op (.pop (.cell 4 5)) [.v 8] <|
  T.call 105 [.v 8] 2 <|
  T.op (.pop (.cell 0 5)) [.v 14] <|
  T.op (.pop (.cell 1 5)) [.v 14] <|
  T.op (.pop (.cell 2 5)) [.v 14] <|
  T.op (.pop (.cell 3 5)) [.v 14] <|
  T.op (.pop (.cell 4 5)) [.v 14] <|
  T.bind .normal (T.op (.bin .neq) [.v 15, .c (.int .i64 0)] <|
  T.ite (.v 21) (T.call 46 [.v 0, .v 1, .v 2, .v 3, .v 4, .v 5, .v 6, .v 7, .c (.bool true), .c (.int .i64 8)] 8 <|
  T.fin .normal [.v 22, .v 23, .v 24, .v 25, .v 26, .v 27, .v 28, .v 29]) <|
  T.op (.bin .eql) [.v 9, .c (.int .i64 13)] <|
  T.ite (.v 22) (T.op (.pop (.len)) [.v 19] <|
  T.op (.pop (.len)) [.v 12] <|
  T.op (.bin .neq) [.v 23, .v 24] <|
  T.call 46 [.v 0, .v 1, .v 2, .v 3, .v 4, .v 5, .v 6, .v 7, .v 25, .c (.int .i64 8)] 8 <|
  T.fin .normal [.v 26, .v 27, .v 28, .v 29, .v 30, .v 31, .v 32, .v 33]) <|
  T.call 46 [.v 0, .v 1, .v 2, .v 3, .v 4, .v 5, .v 6, .v 7, .c (.bool false), .c (.int .i64 8)] 8 <|
  T.fin .normal [.v 23, .v 24, .v 25, .v 26, .v 27, .v 28, .v 29, .v 30]) 8 <|
  T.fin .ret [.v 14, .v 21, .v 22, .v 23, .v 24, .v 25, .v 26, .v 27, .v 28]
/-- assayer/value.Kind -/
def t61 : T :=
  T.op (.pop (.cell 0 3)) [.v 0] <|
  T.op (.pop (.cell 1 3)) [.v 0] <|
  T.op (.pop (.cell 2 3)) [.v 0] <|
  T.call 68 [.v 1] 5 <|
  T.op (.bin .neq) [.v 9, .c (.int .i64 0)] <|
  T.ite (.v 10) (T.fin .ret [.v 5]) <|
  T.op (.bin .neq) [.v 5, .c (.int .i64 0)] <|
  T.ite (.v 11) (T.fin .ret [.v 5]) <|
  T.call 74 [.v 0, .v 6] 2 <|
  T.op (.pop (.cell 0 3)) [.v 12] <|
  T.op (.pop (.cell 1 3)) [.v 12] <|
  T.op (.pop (.cell 2 3)) [.v 12] <|
  T.ite (.v 13) (T.fin .ret [.c (.int .i64 12)]) <|
  T.call 70 [.v 0, .v 6] 2 <|
  T.op (.pop (.cell 0 2)) [.v 17] <|
  T.op (.pop (.cell 1 2)) [.v 17] <|
  T.ite (.v 18) (T.fin .ret [.c (.int .i64 17)]) <|
  T.fin .ret [.c (.int .i64 0)]
/-- assayer/kind.Wire -/
def t89 : T :=
  T.op (.bin .eql) [.v 0, .c (.int .i64 16)] <|
  T.ite (.v 1) (T.fin .ret [.c (.int .i64 11)]) <|
  T.op (.bin .eql) [.v 0, .c (.int .i64 17)] <|
  T.ite (.v 2) (T.fin .ret [.c (.int .i64 8)]) <|
  T.bind .normal (T.op (.bin .eql) [.v 0, .c (.int .i64 2)] <|
  T.ite (.v 3) (T.fin .normal [.c (.bool true)]) <|
  T.op (.bin .eql) [.v 0, .c (.int .i64 3)] <|
  T.ite (.v 4) (T.fin .normal [.c (.bool true)]) <|
  T.op (.bin .eql) [.v 0, .c (.int .i64 4)] <|
  T.ite (.v 5) (T.fin .normal [.c (.bool true)]) <|
  T.op (.bin .eql) [.v 0, .c (.int .i64 6)] <|
  T.ite (.v 6) (T.fin .normal [.c (.bool true)]) <|
  T.op (.bin .eql) [.v 0, .c (.int .i64 8)] <|
  T.ite (.v 7) (T.fin .normal [.c (.bool true)]) <|
  T.op (.bin .eql) [.v 0, .c (.int .i64 10)] <|
  T.ite (.v 8) (T.fin .normal [.c (.bool true)]) <|
  T.op (.bin .eql) [.v 0, .c (.int .i64 11)] <|
  T.ite (.v 9) (T.fin .normal [.c (.bool true)]) <|
  T.op (.bin .eql) [.v 0, .c (.int .i64 12)] <|
  T.ite (.v 10) (T.fin .normal [.c (.bool true)]) <|
  T.op (.bin .eql) [.v 0, .c (.int .i64 13)] <|
  T.ite (.v 11) (T.fin .normal [.c (.bool true)]) <|
  T.op (.bin .eql) [.v 0, .c (.int .i64 14)] <|
  T.ite (.v 12) (T.fin .normal [.c (.bool true)]) <|
  T.op (.bin .eql) [.v 0, .c (.int .i64 15)] <|
  T.fin .normal [.v 13]) 1 <|
  T.ite (.v 3) (T.fin .ret [.v 0]) <|
  T.fin .ret [.c (.int .i64 0)]
/-- assayer/tbin.width -/
def t90 : T :=
  T.bind .normal (T.op (.bin .eql) [.v 0, .c (.int .i64 2)] <|
  T.ite (.v 1) (T.fin .normal [.c (.bool true)]) <|
  T.op (.bin .eql) [.v 0, .c (.int .i64 3)] <|
  T.fin .normal [.v 2]) 1 <|
  T.ite (.v 1) (T.fin .ret [.c (.int .i64 1)]) <|
  T.op (.bin .eql) [.v 0, .c (.int .i64 6)] <|
  T.ite (.v 2) (T.fin .ret [.c (.int .i64 2)]) <|
  T.op (.bin .eql) [.v 0, .c (.int .i64 8)] <|
  T.ite (.v 3) (T.fin .ret [.c (.int .i64 4)]) <|
  T.bind .normal (T.op (.bin .eql) [.v 0, .c (.int .i64 10)] <|
  T.ite (.v 4) (T.fin .normal [.c (.bool true)]) <|
  T.op (.bin .eql) [.v 0, .c (.int .i64 4)] <|
  T.fin .normal [.v 5]) 1 <|
  T.ite (.v 4) (T.fin .ret [.c (.int .i64 8)]) <|
  T.fin .ret [.c (.int .i64 0)]
/-- assayer/tbin.signed -/
def t95 : T :=
  T.op (.bin .mul) [.c (.int .i64 8), .v 1] <|
  T.op (.bin .sub) [.c (.int .i64 64), .v 2] <|
  T.op (.bin .shl) [.v 0, .v 3] <|
  T.op (.conv .i64) [.v 4] <|
  T.op (.bin .shr) [.v 5, .v 3] <|
  T.fin .ret [.v 6]
/-- (*assayer/tbin.cursor).bytes -/
def t97 : T :=
  T.bind .normal (T.op (.bin .lss) [.v 3, .v 1] <|
  T.ite (.v 9) (T.call 46 [.v 0, .v 1, .v 2, .v 3, .v 4, .v 5, .v 6, .v 7, .c (.bool true), .c (.int .i64 4)] 8 <|
  T.fin .normal [.v 10, .v 11, .v 12, .v 13, .v 14, .v 15, .v 16, .v 17]) <|
  T.op (.bin .sub) [.v 3, .v 1] <|
  T.op (.mx true) [.v 10, .c (.int .i64 0)] <|
  T.op (.conv .u64) [.v 11] <|
  T.op (.bin .gtr) [.v 8, .v 12] <|
  T.call 46 [.v 0, .v 1, .v 2, .v 3, .v 4, .v 5, .v 6, .v 7, .v 13, .c (.int .i64 4)] 8 <|
  T.fin .normal [.v 14, .v 15, .v 16, .v 17, .v 18, .v 19, .v 20, .v 21]) 8 <|
  T.op (.pop (.len)) [.v 9] <|
  T.op (.bin .sub) [.v 17, .v 10] <|
  T.op (.conv .u64) [.v 18] <|
  T.op (.bin .gtr) [.v 8, .v 19] <|
  T.call 46 [.v 9, .v 10, .v 11, .v 12, .v 13, .v 14, .v 15, .v 16, .v 20, .c (.int .i64 3)] 8 <|
  T.call 45 [.v 21, .v 22, .v 23, .v 24, .v 25, .v 26, .v 27, .v 28] 9 <|
  T.op .no [.v 29] <|
  T.ite (.v 38) (T.fin .ret [.c (.nil), .v 30, .v 31, .v 32, .v 33, .v 34, .v 35, .v 36, .v 37]) <|
  T.op (.conv .i64) [.v 8] <|
  T.op (.bin .add) [.v 31, .v 39] <|
  T.op (.pop (.slc 1 true true)) [.v 30, .v 31, .v 40] <|
  T.op (.conv .i64) [.v 8] <|
  T.op (.bin .add) [.v 31, .v 42] <|
  T.fin .ret [.v 41, .v 30, .v 43, .v 32, .v 33, .v 34, .v 35, .v 36, .v 37]
/-- (*assayer/tbin.cursor).count -/
def t98 : T :=
  T.call 47 [.v 0, .v 1, .v 2, .v 3, .v 4, .v 5, .v 6, .v 7, .c (.int .i64 4)] 9 <|
  T.op (.bin .gtr) [.v 8, .c (.int .u64 2147483647)] <|
  T.call 46 [.v 9, .v 10, .v 11, .v 12, .v 13, .v 14, .v 15, .v 16, .v 17, .c (.int .i64 2)] 8 <|
  T.call 45 [.v 18, .v 19, .v 20, .v 21, .v 22, .v 23, .v 24, .v 25] 9 <|
  T.op .no [.v 26] <|
  T.ite (.v 35) (T.fin .ret [.c (.int .u64 0), .v 27, .v 28, .v 29, .v 30, .v 31, .v 32, .v 33, .v 34]) <|
  T.fin .ret [.v 8, .v 27, .v 28, .v 29, .v 30, .v 31, .v 32, .v 33, .v 34]
/-- assayer/octet.Take -/
def t101 : T :=
  T.op (.bin .lss) [.v 1, .c (.int .i64 0)] <|
  T.ite (.v 2) (T.fin .ret [.c (.int .u64 0), .c (.int .i64 1)]) <|
  T.op (.bin .gtr) [.v 1, .c (.int .i64 8)] <|
  T.ite (.v 3) (T.fin .ret [.c (.int .u64 0), .c (.int .i64 1)]) <|
  T.op (.pop (.len)) [.v 0] <|
  T.op (.bin .gtr) [.v 1, .v 4] <|
  T.ite (.v 5) (T.fin .ret [.c (.int .u64 0), .c (.int .i64 3)]) <|
  T.op (.bin .sub) [.v 1, .c (.int .i64 1)] <|
  T.op (.bin .mul) [.c (.int .i64 8), .v 6] <|
  T.bind (.exit 0) (T.loop [.c (.int .u64 0), .v 7] <|
  T.op (.bin .geq) [.v 9, .c (.int .i64 0)] <|
  T.ite (.v 10) (T.op (.bin .sub) [.v 1, .c (.int .i64 1)] <|
  T.op (.bin .quo) [.v 9, .c (.int .i64 8)] <|
  T.op (.bin .sub) [.v 11, .v 12] <|
  T.op (.pop (.elt 1)) [.v 0, .v 13] <|
  T.op (.pop (.cell 0 1)) [.v 14] <|
  T.op (.conv .u64) [.v 15] <|
  T.op (.bin .shl) [.v 16, .v 9] <|
  T.op (.bin .or) [.v 8, .v 17] <|
  T.op (.bin .sub) [.v 9, .c (.int .i64 8)] <|
  T.fin .normal [.v 18, .v 19]) <|
  T.fin (.exit 0) [.v 8]) 1 <|
  T.fin .ret [.v 8, .c (.int .i64 0)]
/-- slices.IndexFunc[[]assayer/api.SField,assayer/api.SField] -/
def t102 : T :=
  T.op (.pop (.len)) [.v 0] <|
  T.bind (.exit 0) (T.loop [.c (.int .i64 0)] <|
  T.op (.bin .lss) [.v 3, .v 2] <|
  T.ite (.v 4) (T.op (.pop (.elt 10)) [.v 0, .v 3] <|
  T.callv [60, 82, 88, 96, 103, 118, 121, 123, 150, 161, 177, 179] (.v 1) [.v 5] 1 <|
  T.ite (.v 6) (T.fin .ret [.v 3]) <|
  T.op (.bin .add) [.v 3, .c (.int .i64 1)] <|
  T.fin .normal [.v 7]) <|
  T.fin (.exit 0) []) 0 <|
  T.fin .ret [.c (.int .i64 (-1))]
/-- assayer/value.Field$1 -/
def t103 : T :=
  T.op (.pop (.cell 0 10)) [.v 0] <|
  T.op (.pop (.cell 1 10)) [.v 0] <|
  T.op (.pop (.cell 2 10)) [.v 0] <|
  T.op (.pop (.cell 3 10)) [.v 0] <|
  T.op (.pop (.cell 4 10)) [.v 0] <|
  T.op (.pop (.cell 5 10)) [.v 0] <|
  T.op (.pop (.cell 6 10)) [.v 0] <|
  T.op (.pop (.cell 7 10)) [.v 0] <|
  T.op (.pop (.cell 8 10)) [.v 0] <|
  T.op (.pop (.cell 9 10)) [.v 0] <|
  T.op (.pop (.deref 1)) [.v 1] <|
  T.op (.pop (.cell 0 1)) [.v 12] <|
  T.op (.bin .eql) [.v 2, .v 13] <|
  T.fin .ret [.v 14]
/-- slices.Index[[]int,int] -/
def t104 : T :=
  T.op (.pop (.len)) [.v 0] <|
  T.bind (.exit 0) (T.loop [.c (.int .i64 0)] <|
  T.op (.bin .lss) [.v 3, .v 2] <|
  T.ite (.v 4) (T.op (.pop (.elt 1)) [.v 0, .v 3] <|
  T.op (.pop (.cell 0 1)) [.v 5] <|
  T.op (.bin .eql) [.v 1, .v 6] <|
  T.ite (.v 7) (T.fin .ret [.v 3]) <|
  T.op (.bin .add) [.v 3, .c (.int .i64 1)] <|
  T.fin .normal [.v 8]) <|
  T.fin (.exit 0) []) 0 <|
  T.fin .ret [.c (.int .i64 (-1))]
/-- assayer/order.Normal -/
def t105 : T :=
  T.op (.pop (.cell 0 5)) [.v 0] <|
  T.op (.pop (.cell 1 5)) [.v 0] <|
  T.op (.pop (.cell 2 5)) [.v 0] <|
  T.op (.pop (.cell 3 5)) [.v 0] <|
  T.op (.pop (.cell 4 5)) [.v 0] <|
  T.call 137 [.v 0] 2 <|
  T.op (.pop (.cell 0 5)) [.v 6] <|
  T.op (.pop (.cell 1 5)) [.v 6] <|
  T.op (.pop (.cell 2 5)) [.v 6] <|
  T.op (.pop (.cell 3 5)) [.v 6] <|
  T.op (.pop (.cell 4 5)) [.v 6] <|
  T.fin .ret [.v 6, .v 7]
/-- assayer/order.within -/
def t137 : T :=
  T.op (.pop (.cell 0 5)) [.v 0] <|
  T.op (.pop (.cell 1 5)) [.v 0] <|
  T.op (.pop (.cell 2 5)) [.v 0] <|
  T.op (.pop (.cell 3 5)) [.v 0] <|
  T.op (.pop (.cell 4 5)) [.v 0] <|
  T.call 157 [.v 1] 1 <|
  T.op .no [.v 6] <|
  T.ite (.v 7) (T.call 158 [.v 0] 1 <|
  T.op (.pop (.cell 0 5)) [.v 8] <|
  T.op (.pop (.cell 1 5)) [.v 8] <|
  T.op (.pop (.cell 2 5)) [.v 8] <|
  T.op (.pop (.cell 3 5)) [.v 8] <|
  T.op (.pop (.cell 4 5)) [.v 8] <|
  T.fin .ret [.v 8, .c (.int .i64 0)]) <|
  T.call 141 [.v 5] 1 <|
  T.op (.pop (.cell 0 1)) [.v 8] <|
  T.op (.pop (.len)) [.v 4] <|
  T.bind (.exit 0) (T.loop [.c (.int .i64 0), .c (.nil)] <|
  T.op (.bin .lss) [.v 11, .v 10] <|
  T.ite (.v 13) (T.op (.pop (.elt 5)) [.v 4, .v 11] <|
  T.op (.pop (.cell 0 5)) [.v 14] <|
  T.op (.pop (.cell 1 5)) [.v 14] <|
  T.op (.pop (.cell 2 5)) [.v 14] <|
  T.op (.pop (.cell 3 5)) [.v 14] <|
  T.op (.pop (.cell 4 5)) [.v 14] <|
  T.call 137 [.v 14] 2 <|
  T.op (.pop (.cell 0 5)) [.v 20] <|
  T.op (.pop (.cell 1 5)) [.v 20] <|
  T.op (.pop (.cell 2 5)) [.v 20] <|
  T.op (.pop (.cell 3 5)) [.v 20] <|
  T.op (.pop (.cell 4 5)) [.v 20] <|
  T.op (.bin .neq) [.v 21, .c (.int .i64 0)] <|
  T.ite (.v 27) (T.fin .ret [.c (.agg [.int .i64 0, .int .i64 0, V.txt [], .nil, .nil]), .v 21]) <|
  T.op (.pop (.mkLst 5 true)) [.v 20] <|
  T.op (.pop (.cat 5 80 true)) [.v 12, .v 28] <|
  T.op (.bin .add) [.v 11, .c (.int .i64 1)] <|
  T.fin .normal [.v 30, .v 29]) <|
  T.fin (.exit 0) [.v 12]) 1 <|
  T.bind (.exit 2) (T.op (.bin .eql) [.v 1, .c (.int .i64 14)] <|
  T.ite (.v 12) (T.call 159 [.v 11, .c (.fn 132 [])] 1 <|
  T.call 160 [.v 13, .c (.fn 161 [])] 2 <|
  T.op (.pop (.cell 0 1)) [.v 14] <|
  T.fin (.exit 2) [.v 16]) <|
  T.op (.bin .eql) [.v 1, .c (.int .i64 13)] <|
  T.ite (.v 13) (T.call 162 [.v 11] 2 <|
  T.op (.bin .neq) [.v 15, .c (.int .i64 0)] <|
  T.ite (.v 16) (T.fin .ret [.c (.agg [.int .i64 0, .int .i64 0, V.txt [], .nil, .nil]), .v 15]) <|
  T.op (.pop (.cell 0 1)) [.v 14] <|
  T.fin (.exit 2) [.v 17]) <|
  T.op (.bin .eql) [.v 1, .c (.int .i64 12)] <|
  T.ite (.v 14) (T.op (.pop (.mkAgg)) [.v 1, .v 2, .v 3, .v 11, .v 9] <|
  T.call 163 [.v 15] 2 <|
  T.op (.pop (.cell 0 5)) [.v 16] <|
  T.op (.pop (.cell 1 5)) [.v 16] <|
  T.op (.pop (.cell 2 5)) [.v 16] <|
  T.op (.pop (.cell 3 5)) [.v 16] <|
  T.op (.pop (.cell 4 5)) [.v 16] <|
  T.fin .ret [.v 16, .v 17]) <|
  T.fin (.exit 2) [.v 11]) 1 <|
  T.op (.pop (.mkAgg)) [.v 1, .v 2, .v 3, .v 12, .v 9] <|
  T.fin .ret [.v 13, .c (.int .i64 0)]
/-- slices.Clone[[]int,int] -/
def t141 : T :=
  T.op (.isNil true false) [.v 0] <|
  T.ite (.v 1) (T.fin .ret [.c (.nil)]) <|
  T.op (.pop (.cat 1 8 false)) [.c (.lst []), .v 0] <|
  T.fin .ret [.v 2]
/-- assayer/order.holds -/
def t157 : T :=
  T.bind .normal (T.op (.bin .eql) [.v 0, .c (.int .i64 15)] <|
  T.ite (.v 1) (T.fin .normal [.c (.bool true)]) <|
  T.op (.bin .eql) [.v 0, .c (.int .i64 14)] <|
  T.ite (.v 2) (T.fin .normal [.c (.bool true)]) <|
  T.op (.bin .eql) [.v 0, .c (.int .i64 13)] <|
  T.ite (.v 3) (T.fin .normal [.c (.bool true)]) <|
  T.op (.bin .eql) [.v 0, .c (.int .i64 12)] <|
  T.fin .normal [.v 4]) 1 <|
  T.fin .ret [.v 1]
/-- assayer/order.Copy -/
def t158 : T :=
  T.op (.pop (.cell 0 5)) [.v 0] <|
  T.op (.pop (.cell 1 5)) [.v 0] <|
  T.op (.pop (.cell 2 5)) [.v 0] <|
  T.op (.pop (.cell 3 5)) [.v 0] <|
  T.op (.pop (.cell 4 5)) [.v 0] <|
  T.call 141 [.v 5] 1 <|
  T.op (.pop (.cell 0 1)) [.v 6] <|
  T.op (.pop (.len)) [.v 4] <|
  T.bind (.exit 0) (T.loop [.c (.int .i64 0), .c (.nil)] <|
  T.op (.bin .lss) [.v 9, .v 8] <|
  T.ite (.v 11) (T.op (.pop (.elt 5)) [.v 4, .v 9] <|
  T.op (.pop (.cell 0 5)) [.v 12] <|
  T.op (.pop (.cell 1 5)) [.v 12] <|
  T.op (.pop (.cell 2 5)) [.v 12] <|
  T.op (.pop (.cell 3 5)) [.v 12] <|
  T.op (.pop (.cell 4 5)) [.v 12] <|
  T.call 158 [.v 12] 1 <|
  T.op (.pop (.cell 0 5)) [.v 18] <|
  T.op (.pop (.cell 1 5)) [.v 18] <|
  T.op (.pop (.cell 2 5)) [.v 18] <|
  T.op (.pop (.cell 3 5)) [.v 18] <|
  T.op (.pop (.cell 4 5)) [.v 18] <|
  T.op (.pop (.mkLst 5 true)) [.v 18] <|
  T.op (.pop (.cat 5 80 true)) [.v 10, .v 24] <|
  T.op (.bin .add) [.v 9, .c (.int .i64 1)] <|
  T.fin .normal [.v 26, .v 25]) <|
  T.fin (.exit 0) [.v 10]) 1 <|
  T.op (.pop (.mkAgg)) [.v 1, .v 2, .v 3, .v 9, .v 7] <|
  T.fin .ret [.v 10]
/-- assayer/order.fields -/
def t163 : T :=
  T.op (.pop (.cell 0 5)) [.v 0] <|
  T.op (.pop (.cell 1 5)) [.v 0] <|
  T.op (.pop (.cell 2 5)) [.v 0] <|
  T.op (.pop (.cell 3 5)) [.v 0] <|
  T.op (.pop (.cell 4 5)) [.v 0] <|
  T.op (.pop (.len)) [.v 5] <|
  T.op (.pop (.len)) [.v 4] <|
  T.op (.bin .neq) [.v 6, .v 7] <|
  T.ite (.v 8) (T.fin .ret [.c (.agg [.int .i64 0, .int .i64 0, V.txt [], .nil, .nil]), .c (.int .i64 1)]) <|
  T.op (.pop (.zeros [.int .i64 0] 8 false)) [.v 6] <|
  T.op (.pop (.len)) [.v 9] <|
  T.bind (.exit 0) (T.loop [.c (.int .i64 0), .v 9] <|
  T.op (.bin .lss) [.v 11, .v 10] <|
  T.ite (.v 13) (T.op (.pop (.elt 1)) [.v 12, .v 11] <|
  T.op (.pop (.cell 0 1)) [.v 11] <|
  T.op (.pop (.upd 1 0 false)) [.v 12, .v 11, .v 15] <|
  T.op (.bin .add) [.v 11, .c (.int .i64 1)] <|
  T.fin .normal [.v 17, .v 16]) <|
  T.fin (.exit 0) [.v 12]) 1 <|
  T.op (.pop (.mkFp)) [.v 1, .v 2, .v 3, .v 4, .v 5] <|
  T.op (.pop (.mkFn 179)) [.v 12] <|
  T.call 178 [.v 11, .v 13] 1 <|
  T.op (.pop (.len)) [.v 14] <|
  T.bind (.exit 2) (T.loop [.c (.int .i64 0), .c (.nil), .c (.nil)] <|
  T.op (.bin .lss) [.v 16, .v 15] <|
  T.ite (.v 19) (T.op (.pop (.elt 1)) [.v 14, .v 16] <|
  T.op (.pop (.cell 0 1)) [.v 20] <|
  T.bind .normal (T.op (.bin .gtr) [.v 16, .c (.int .i64 0)] <|
  T.ite (.v 22) (T.op (.bin .sub) [.v 16, .c (.int .i64 1)] <|
  T.op (.pop (.elt 1)) [.v 14, .v 23] <|
  T.op (.pop (.cell 0 1)) [.v 24] <|
  T.op (.pop (.elt 1)) [.v 5, .v 25] <|
  T.op (.pop (.cell 0 1)) [.v 26] <|
  T.op (.pop (.elt 1)) [.v 5, .v 21] <|
  T.op (.pop (.cell 0 1)) [.v 28] <|
  T.op (.bin .eql) [.v 27, .v 29] <|
  T.ite (.v 30) (T.fin .ret [.c (.agg [.int .i64 0, .int .i64 0, V.txt [], .nil, .nil]), .c (.int .i64 8)]) <|
  T.fin .normal []) <|
  T.fin .normal []) 0 <|
  T.op (.pop (.elt 1)) [.v 5, .v 21] <|
  T.op (.pop (.cell 0 1)) [.v 22] <|
  T.op (.pop (.mkLst 1 false)) [.v 23] <|
  T.op (.pop (.cat 1 8 false)) [.v 18, .v 24] <|
  T.op (.pop (.elt 5)) [.v 4, .v 21] <|
  T.op (.pop (.cell 0 5)) [.v 26] <|
  T.op (.pop (.cell 1 5)) [.v 26] <|
  T.op (.pop (.cell 2 5)) [.v 26] <|
  T.op (.pop (.cell 3 5)) [.v 26] <|
  T.op (.pop (.cell 4 5)) [.v 26] <|
  T.op (.pop (.mkLst 5 true)) [.v 26] <|
  T.op (.pop (.cat 5 80 true)) [.v 17, .v 32] <|
  T.op (.bin .add) [.v 16, .c (.int .i64 1)] <|
  T.fin .normal [.v 34, .v 33, .v 25]) <|
  T.fin (.exit 2) [.v 17, .v 18]) 2 <|
  T.op (.pop (.mkAgg)) [.v 1, .v 2, .v 3, .v 16, .v 17] <|
  T.fin .ret [.v 18, .c (.int .i64 0)]
/-- slices.SortStableFunc[[]int,int] -/
def t178 : T :=
  T.op (.pop (.len)) [.v 0] <|
  T.call 185 [.v 0, .v 2, .v 1] 1 <|
  T.fin .ret [.v 3]
/-- assayer/order.fields$1 -/
def t179 : T :=
  T.op (.pop (.deref 5)) [.v 2] <|
  T.op (.pop (.cell 4 5)) [.v 3] <|
  T.op (.pop (.elt 1)) [.v 4, .v 0] <|
  T.op (.pop (.cell 0 1)) [.v 5] <|
  T.op (.pop (.elt 1)) [.v 4, .v 1] <|
  T.op (.pop (.cell 0 1)) [.v 7] <|
  T.call 151 [.v 6, .v 8] 1 <|
  T.fin .ret [.v 9]
/-- slices.stableCmpFunc[int] -/
def t185 : T :=
  T.bind (.exit 0) (T.loop [.c (.int .i64 0), .c (.int .i64 20), .v 0] <|
  T.op (.bin .leq) [.v 4, .v 1] <|
  T.ite (.v 6) (T.call 189 [.v 5, .v 3, .v 4, .v 2] 1 <|
  T.op (.bin .add) [.v 4, .c (.int .i64 20)] <|
  T.fin .normal [.v 4, .v 8, .v 7]) <|
  T.fin (.exit 0) [.v 3, .v 5]) 2 <|
  T.call 189 [.v 4, .v 3, .v 1, .v 2] 1 <|
  T.bind (.exit 2) (T.loop [.c (.int .i64 20), .v 5] <|
  T.op (.bin .lss) [.v 6, .v 1] <|
  T.ite (.v 8) (T.op (.bin .mul) [.c (.int .i64 2), .v 6] <|
  T.bind (.exit 4) (T.loop [.c (.int .i64 0), .v 9, .v 7] <|
  T.op (.bin .leq) [.v 11, .v 1] <|
  T.ite (.v 13) (T.op (.bin .add) [.v 10, .v 6] <|
  T.call 190 [.v 12, .v 10, .v 14, .v 11, .v 2] 1 <|
  T.op (.bin .mul) [.c (.int .i64 2), .v 6] <|
  T.op (.bin .add) [.v 11, .v 16] <|
  T.fin .normal [.v 11, .v 17, .v 15]) <|
  T.fin (.exit 4) [.v 10, .v 12]) 2 <|
  T.bind .normal (T.op (.bin .add) [.v 10, .v 6] <|
  T.op (.bin .lss) [.v 12, .v 1] <|
  T.ite (.v 13) (T.call 190 [.v 11, .v 10, .v 12, .v 1, .v 2] 1 <|
  T.fin .normal [.v 14]) <|
  T.fin .normal [.v 11]) 1 <|
  T.op (.bin .mul) [.v 6, .c (.int .i64 2)] <|
  T.fin .normal [.v 13, .v 12]) <|
  T.fin (.exit 2) [.v 7]) 1 <|
  T.fin .ret [.v 6]
/-- slices.insertionSortCmpFunc[int] -/
def t189 : T :=
  T.op (.bin .add) [.v 1, .c (.int .i64 1)] <|
  T.bind (.exit 0) (T.loop [.v 4, .v 0] <|
  T.op (.bin .lss) [.v 5, .v 2] <|
  T.ite (.v 7) (T.bind (.exit 2) (T.loop [.v 5, .v 6] <|
  T.op (.bin .gtr) [.v 8, .v 1] <|
  T.ite (.v 10) (T.op (.pop (.elt 1)) [.v 9, .v 8] <|
  T.op (.pop (.cell 0 1)) [.v 11] <|
  T.op (.bin .sub) [.v 8, .c (.int .i64 1)] <|
  T.op (.pop (.elt 1)) [.v 9, .v 13] <|
  T.op (.pop (.cell 0 1)) [.v 14] <|
  T.callv [60, 82, 88, 96, 103, 118, 121, 123, 150, 161, 177, 179] (.v 3) [.v 12, .v 15] 1 <|
  T.op (.bin .lss) [.v 16, .c (.int .i64 0)] <|
  T.ite (.v 17) (T.op (.bin .sub) [.v 8, .c (.int .i64 1)] <|
  T.op (.bin .sub) [.v 8, .c (.int .i64 1)] <|
  T.op (.pop (.elt 1)) [.v 9, .v 19] <|
  T.op (.pop (.cell 0 1)) [.v 20] <|
  T.op (.pop (.upd 1 0 false)) [.v 9, .v 8, .v 21] <|
  T.op (.pop (.elt 1)) [.v 22, .v 18] <|
  T.op (.pop (.upd 1 0 false)) [.v 22, .v 18, .v 12] <|
  T.op (.bin .sub) [.v 8, .c (.int .i64 1)] <|
  T.fin .normal [.v 25, .v 24]) <|
  T.fin (.exit 2) [.v 9]) <|
  T.fin (.exit 2) [.v 9]) 1 <|
  T.op (.bin .add) [.v 5, .c (.int .i64 1)] <|
  T.fin .normal [.v 9, .v 8]) <|
  T.fin (.exit 0) [.v 6]) 1 <|
  T.fin .ret [.v 5]
/-- cmp.Compare[int] -/
def t151 : T :=
  T.call 170 [.v 0] 1 <|
  T.call 170 [.v 1] 1 <|
  T.ite (.v 2) (T.ite (.v 3) (T.fin .ret [.c (.int .i64 0)]) <|
  T.fin .ret [.c (.int .i64 (-1))]) <|
  T.ite (.v 3) (T.fin .ret [.c (.int .i64 1)]) <|
  T.op (.bin .lss) [.v 0, .v 1] <|
  T.ite (.v 4) (T.fin .ret [.c (.int .i64 (-1))]) <|
  T.op (.bin .gtr) [.v 0, .v 1] <|
  T.ite (.v 5) (T.fin .ret [.c (.int .i64 1)]) <|
  T.fin .ret [.c (.int .i64 0)]
/-- cmp.isNaN[int] -/
def t170 : T :=
  T.op (.bin .neq) [.v 0, .v 0] <|
  T.fin .ret [.v 1]
/-- assayer/assayerlaw13.Twins -/
def t8 : T :=
  T.op (.pop (.cell 0 5)) [.v 0] <|
  T.op (.pop (.cell 1 5)) [.v 0] <|
  T.op (.pop (.cell 2 5)) [.v 0] <|
  T.op (.pop (.cell 3 5)) [.v 0] <|
  T.op (.pop (.cell 4 5)) [.v 0] <|
  T.op (.pop (.cell 0 5)) [.v 1] <|
  T.op (.pop (.cell 1 5)) [.v 1] <|
  T.op (.pop (.cell 2 5)) [.v 1] <|
  T.op (.pop (.cell 3 5)) [.v 1] <|
  T.op (.pop (.cell 4 5)) [.v 1] <|
  T.op (.bin .neq) [.v 2, .v 7] <|
  T.ite (.v 12) (T.fin .ret [.c (.bool false)]) <|
  T.op (.bin .neq) [.v 3, .v 8] <|
  T.ite (.v 13) (T.fin .ret [.c (.bool false)]) <|
  T.op (.bin .neq) [.v 4, .v 9] <|
  T.ite (.v 14) (T.fin .ret [.c (.bool false)]) <|
  T.op (.pop (.len)) [.v 5] <|
  T.op (.pop (.len)) [.v 10] <|
  T.op (.bin .neq) [.v 15, .v 16] <|
  T.ite (.v 17) (T.fin .ret [.c (.bool false)]) <|
  T.op (.pop (.len)) [.v 6] <|
  T.op (.pop (.len)) [.v 11] <|
  T.op (.bin .neq) [.v 18, .v 19] <|
  T.ite (.v 20) (T.fin .ret [.c (.bool false)]) <|
  T.bind (.exit 0) (T.loop [.c (.int .i64 0)] <|
  T.op (.bin .lss) [.v 21, .v 18] <|
  T.ite (.v 22) (T.op (.pop (.elt 1)) [.v 6, .v 21] <|
  T.op (.pop (.cell 0 1)) [.v 23] <|
  T.op (.pop (.elt 1)) [.v 11, .v 21] <|
  T.op (.pop (.cell 0 1)) [.v 25] <|
  T.op (.bin .neq) [.v 24, .v 26] <|
  T.ite (.v 27) (T.fin .ret [.c (.bool false)]) <|
  T.op (.bin .add) [.v 21, .c (.int .i64 1)] <|
  T.fin .normal [.v 28]) <|
  T.fin (.exit 0) []) 0 <|
  T.bind (.exit 2) (T.loop [.c (.int .i64 0)] <|
  T.op (.bin .lss) [.v 21, .v 15] <|
  T.ite (.v 22) (T.op (.pop (.elt 5)) [.v 5, .v 21] <|
  T.op (.pop (.elt 5)) [.v 10, .v 21] <|
  T.call 8 [.v 23, .v 24] 1 <|
  T.op .no [.v 25] <|
  T.ite (.v 26) (T.fin .ret [.c (.bool false)]) <|
  T.op (.bin .add) [.v 21, .c (.int .i64 1)] <|
  T.fin .normal [.v 27]) <|
  T.fin (.exit 2) []) 0 <|
  T.fin .ret [.c (.bool true)]
def trees : List (Nat × Nat × T) := [(3, 2, t3), (7, 4, t7), (18, 10, t18), (19, 9, t19), (41, 10, t41), (44, 10, t44), (45, 8, t45), (46, 10, t46), (47, 9, t47), (48, 1, t48), (49, 2, t49), (50, 10, t50), (51, 2, t51), (52, 11, t52), (53, 9, t53), (61, 2, t61), (89, 1, t89), (90, 1, t90), (95, 2, t95), (97, 9, t97), (98, 8, t98), (101, 2, t101), (102, 2, t102), (103, 2, t103), (104, 2, t104), (105, 1, t105), (137, 1, t137), (141, 1, t141), (157, 1, t157), (158, 1, t158), (163, 1, t163), (178, 2, t178), (179, 3, t179), (185, 3, t185), (189, 4, t189), (151, 2, t151), (170, 1, t170), (8, 2, t8)]
def sigs : List (Nat × FSig) := [(18, ⟨false, false, [.ptr 73 false, .dat, .dat], [.dat], false⟩), (19, ⟨false, false, [.ptr 73 false, .dat], [.dat, .dat, .dat], false⟩), (39, ⟨false, false, [.ptr 102 false, .dat, .dat], [], false⟩), (40, ⟨false, false, [.ptr 102 false, .dat, .dat], [.dat, .dat], false⟩), (41, ⟨false, false, [.ptr 73 false, .dat, .dat], [.dat], false⟩), (43, ⟨false, false, [.ptr 102 false, .dat, .dat], [], false⟩), (44, ⟨false, false, [.ptr 73 false, .dat, .dat], [], false⟩), (45, ⟨false, false, [.ptr 73 false], [.dat], false⟩), (46, ⟨false, false, [.ptr 73 false, .dat, .dat], [], false⟩), (47, ⟨false, false, [.ptr 73 false, .dat], [.dat], false⟩), (50, ⟨false, false, [.ptr 73 false, .dat, .dat], [], false⟩), (52, ⟨false, false, [.ptr 73 false, .dat, .dat, .dat], [], false⟩), (53, ⟨false, false, [.ptr 73 false, .dat], [.dat], false⟩), (91, ⟨false, false, [.ptr 102 false, .dat, .dat], [], false⟩), (93, ⟨false, false, [.ptr 102 false, .dat], [.dat], false⟩), (97, ⟨false, false, [.ptr 73 false, .dat], [.dat], false⟩), (98, ⟨false, false, [.ptr 73 false], [.dat], false⟩), (99, ⟨false, false, [.ptr 73 false, .dat, .dat, .dat, .dat], [.dat], false⟩), (100, ⟨false, false, [.ptr 73 false, .dat, .dat], [], false⟩), (111, ⟨false, true, [.dat], [.ptr 180 false, .dat, .dat], false⟩), (113, ⟨false, false, [.row 128], [.row 128], false⟩), (136, ⟨false, false, [.ptr 73 false], [.dat], false⟩), (144, ⟨false, false, [.ptr 180 false, .dat], [.dat, .dat], false⟩), (145, ⟨false, false, [.ptr 180 true, .dat, .dat], [], false⟩), (159, ⟨true, false, [.row 32, .dat], [], false⟩), (160, ⟨true, false, [.row 32, .dat], [.dat], true⟩), (165, ⟨false, false, [.ptr 180 true], [.dat], false⟩), (166, ⟨false, false, [.ptr 180 false], [.dat], false⟩), (168, ⟨false, false, [.ptr 180 true, .dat], [], false⟩), (175, ⟨true, false, [.row 32, .dat, .dat], [], false⟩), (176, ⟨true, false, [.row 224, .dat], [], false⟩), (178, ⟨true, false, [.row 3, .dat], [], false⟩), (182, ⟨true, false, [.row 32, .dat, .dat, .dat], [], false⟩), (183, ⟨true, false, [.row 32, .dat, .dat, .dat, .dat], [], false⟩), (184, ⟨true, false, [.row 224, .dat, .dat], [], false⟩), (185, ⟨true, false, [.row 3, .dat, .dat], [], false⟩), (186, ⟨true, false, [.row 32, .dat, .dat, .dat, .dat], [], false⟩), (187, ⟨true, false, [.row 224, .dat, .dat, .dat], [], false⟩), (188, ⟨true, false, [.row 224, .dat, .dat, .dat, .dat], [], false⟩), (189, ⟨true, false, [.row 3, .dat, .dat, .dat], [], false⟩), (190, ⟨true, false, [.row 3, .dat, .dat, .dat, .dat], [], false⟩), (191, ⟨true, false, [.row 32, .dat, .dat, .dat, .dat], [], false⟩), (192, ⟨true, false, [.row 224, .dat, .dat, .dat, .dat], [], false⟩), (193, ⟨true, false, [.row 3, .dat, .dat, .dat, .dat], [], false⟩), (194, ⟨true, false, [.row 224, .dat, .dat, .dat, .dat], [], false⟩), (195, ⟨true, false, [.row 3, .dat, .dat, .dat, .dat], [], false⟩)]
def cellL : List (Nat × List (Option Nat)) := [(138, [none, none, none, none, none, none, some 134, some 135, some 143]), (83, [none, none, none, none, none, none, none]), (73, [none, none, none, none, none, none, none, none]), (71, [none, none, none, none, none]), (102, [none, none, none, none]), (180, [none, none, none, some 9, none]), (149, [none, none, none]), (130, [some 128, none, none, none])]
def valL : List Nat := [60, 82, 88, 96, 103, 118, 121, 123, 150, 161, 177, 179]
def cloneL : List Nat := [113]
end Go.Proofs.YtjofhegodknmaaaGreat.Tbf
