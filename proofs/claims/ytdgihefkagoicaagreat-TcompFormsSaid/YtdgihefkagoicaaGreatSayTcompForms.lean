/- TcompForms: what V tells of the law, its calls one by one. -/
import Derived.Test.YtdgihefkagoicaaGreatChecked
import Derived.Test.YtdgihefkagoicaaGreatV18
namespace Go.Proofs.YtdgihefkagoicaaGreat.Say
open Go
open V (D)
instance : V.Sig := ⟨fun _ => .nil⟩
theorem named : V.Named Tryz.prog := by
  have h : Tryz.prog.funcs.all (fun fn => fn.body.isNone || !(fn.name == "runtime.NumGoroutine")) = true := by kernel_rfl
  intro f fn c hf hc
  have := Array.all_eq_true_iff_forall_mem.1 h fn (Array.mem_of_getElem? hf)
  simpa [hc] using this
theorem regs : V.RegsP Tryz.prog := V.regs_of_check Tryz.checked.codeOk
theorem follows : Tryz.prog.follows .mixedOrders = true := by kernel_rfl
def d0 : V.D := .fp [V.txt [105, 49, 54], .int .i64 3, .int .i64 0, .nil, .int .i64 0]
def d1 : V.D := .fp [V.txt [97, 46, 83], .int .i64 3, .int .i64 0, .lst [V.txt [97, 46, 83]], .int .i64 0]
def d2 : V.D := .agg [.lst [.agg [.int .i64 4, V.txt [97, 46, 83], .lst [.agg [.int .i64 (-1), .int .i64 0, V.txt [115, 116, 114, 105, 110, 103], V.txt [], .bool false, .int .i64 0, .int .i64 0, V.txt [], .nil, .nil], .agg [.int .i64 1, .int .i64 0, V.txt [98, 111, 111, 108], V.txt [], .bool false, .int .i64 0, .int .i64 0, V.txt [], .nil, .nil], .agg [.int .i64 16, .int .i64 0, V.txt [98, 111, 111, 108], V.txt [], .bool false, .int .i64 0, .int .i64 0, V.txt [], .nil, .nil], .agg [.int .i64 40, .int .i64 0, V.txt [105, 51, 50], V.txt [], .bool false, .int .i64 0, .int .i64 0, V.txt [], .nil, .nil]]]], .nil, .nil]
def d3 : V.D := .fp [V.txt [115, 116, 114, 105, 110, 103], .int .i64 6, .int .i64 0, .nil, .int .i64 0]
def d4 : V.D := .fp [V.txt [98, 111, 111, 108], .int .i64 4, .int .i64 0, .nil, .int .i64 0]
def d5 : V.D := .fp [V.txt [105, 51, 50], .int .i64 3, .int .i64 0, .nil, .int .i64 0]
def d6 : V.D := .agg [.int .i64 4, V.txt [97, 46, 83], .lst [.agg [.int .i64 (-1), .int .i64 0, V.txt [115, 116, 114, 105, 110, 103], V.txt [], .bool false, .int .i64 0, .int .i64 0, V.txt [], .nil, .nil], .agg [.int .i64 1, .int .i64 0, V.txt [98, 111, 111, 108], V.txt [], .bool false, .int .i64 0, .int .i64 0, V.txt [], .nil, .nil], .agg [.int .i64 16, .int .i64 0, V.txt [98, 111, 111, 108], V.txt [], .bool false, .int .i64 0, .int .i64 0, V.txt [], .nil, .nil], .agg [.int .i64 40, .int .i64 0, V.txt [105, 51, 50], V.txt [], .bool false, .int .i64 0, .int .i64 0, V.txt [], .nil, .nil]]]
def d7 : V.D := .agg [.int .i64 12, .int .i64 0, V.txt [], .lst [.agg [.int .i64 11, .int .i64 0, V.txt [120], .nil, .nil], .agg [.int .i64 2, .int .i64 1, V.txt [], .nil, .nil], .agg [.int .i64 2, .int .i64 0, V.txt [], .nil, .nil], .agg [.int .i64 8, .int .i64 (-3), V.txt [], .nil, .nil]], .lst [.int .i64 (-1), .int .i64 1, .int .i64 16, .int .i64 40]]
def d8 : V.D := .lst [.int .u8 8, .int .u8 1, .int .u8 1, .int .u8 120, .int .u8 33, .int .u8 242, .int .u8 5, .int .u8 80, .int .u8 5, .int .u8 0]
def d9 : V.D := .fp [V.txt [100, 111, 117, 98, 108, 101], .int .i64 6, .int .i64 0, .nil, .int .i64 0]
def d10 : V.D := .lst [.int .u8 0, .int .u8 0, .int .u8 0, .int .u8 0, .int .u8 0, .int .u8 0, .int .u8 240, .int .u8 63]
def d11 : V.D := .agg [.int .i64 4, .int .i64 4607182418800017408, V.txt [], .nil, .nil]
def d12 : V.D := .fp [V.txt [108, 105, 115, 116, 60, 98, 111, 111, 108, 62], .int .i64 10, .int .i64 0, .nil, .int .i64 1]
def d13 : V.D := .agg [.int .i64 15, .int .i64 0, V.txt [], .lst [.agg [.int .i64 2, .int .i64 1, V.txt [], .nil, .nil], .agg [.int .i64 2, .int .i64 0, V.txt [], .nil, .nil]], .nil]
def d14 : V.D := .fp [V.txt [108, 105, 115, 116, 60, 105, 56, 62], .int .i64 8, .int .i64 0, .nil, .int .i64 1]
def d15 : V.D := .fp [V.txt [105, 56], .int .i64 2, .int .i64 0, .nil, .int .i64 0]
def d16 : V.D := .agg [.int .i64 15, .int .i64 0, V.txt [], .lst [.agg [.int .i64 3, .int .i64 5, V.txt [], .nil, .nil], .agg [.int .i64 3, .int .i64 6, V.txt [], .nil, .nil]], .nil]
def d17 : V.D := .agg [.int .i64 15, .int .i64 0, V.txt [], .lst [.agg [.int .i64 3, .int .i64 5, V.txt [], .nil, .nil]], .nil]
def d18 : V.D := V.txt [109, 97, 112, 60, 105, 56, 44, 98, 111, 111, 108, 62]
def d19 : V.D := .fp [V.txt [109, 97, 112, 60, 105, 56, 44, 98, 111, 111, 108, 62], .int .i64 12, .int .i64 0, .nil, .int .i64 1]
def d20 : V.D := .agg [.int .i64 13, .int .i64 0, V.txt [], .lst [.agg [.int .i64 3, .int .i64 5, V.txt [], .nil, .nil], .agg [.int .i64 2, .int .i64 1, V.txt [], .nil, .nil]], .nil]
def d21 : V.D := .agg [.int .i64 12, .int .i64 0, V.txt [], .lst [.agg [.int .i64 2, .int .i64 1, V.txt [], .nil, .nil]], .lst [.int .i64 1]]
def d22 : V.D := .agg [.int .i64 12, .int .i64 0, V.txt [], .lst [.agg [.int .i64 2, .int .i64 0, V.txt [], .nil, .nil], .agg [.int .i64 2, .int .i64 1, V.txt [], .nil, .nil]], .lst [.int .i64 1, .int .i64 16]]
def d23 : V.D := .fp [V.txt [105, 54, 52], .int .i64 3, .int .i64 0, .nil, .int .i64 0]
def d24 : V.D := .lst [.int .u8 255, .int .u8 255, .int .u8 255, .int .u8 255]
def d25 : V.D := .lst [.int .u8 255, .int .u8 255, .int .u8 255, .int .u8 255, .int .u8 255]
def d26 : V.D := .lst [.int .u8 255, .int .u8 255, .int .u8 255, .int .u8 255, .int .u8 255, .int .u8 255]
def d27 : V.D := .lst [.int .u8 255, .int .u8 255, .int .u8 255, .int .u8 255, .int .u8 255, .int .u8 255, .int .u8 255]
def d28 : V.D := .lst [.int .u8 255, .int .u8 255, .int .u8 255, .int .u8 255, .int .u8 255, .int .u8 255, .int .u8 255, .int .u8 255]
def d29 : V.D := .lst [.int .u8 255, .int .u8 255, .int .u8 255, .int .u8 255, .int .u8 255, .int .u8 255, .int .u8 255, .int .u8 255, .int .u8 255]
def d30 : V.D := .lst [.int .u8 255, .int .u8 255, .int .u8 255, .int .u8 255, .int .u8 255, .int .u8 255, .int .u8 255, .int .u8 255, .int .u8 255, .int .u8 1]
def d31 : V.D := .agg [.int .i64 10, .int .i64 (-9223372036854775808), V.txt [], .nil, .nil]
def d32 : V.D := .lst [.int .u8 128, .int .u8 128, .int .u8 128, .int .u8 128]
def d33 : V.D := .lst [.int .u8 128, .int .u8 128, .int .u8 128, .int .u8 128, .int .u8 16]
def a0 : List V.D := [(V.txt [105, 49, 54])]
def r0 : List V.D := [d0, (.int .i64 6), .nil]
def a1 : List V.D := [(.agg [.nil, .nil, .nil]), (V.txt [105, 49, 54]), (.agg [.int .i64 6, .int .i64 (-2), V.txt [], .nil, .nil]), (.agg [.int .i64 5, .int .i64 50])]
def r1 : List V.D := [(.lst [.int .u8 3]), (.int .i64 0)]
def a2 : List V.D := [(.agg [.nil, .nil, .nil]), (V.txt [105, 49, 54]), (.lst [.int .u8 10, .int .u8 9]), (.agg [.int .i64 5, .int .i64 50])]
def r2 : List V.D := [(.agg [.int .i64 6, .int .i64 5, V.txt [], .nil, .nil]), (.int .i64 1), (.int .i64 0)]
def a3 : List V.D := [(.agg [.nil, .nil, .nil]), (.agg [.int .i64 4, V.txt [], .nil]), (.lst [.int .u8 0]), (.agg [.int .i64 5, .int .i64 50])]
def r3 : List V.D := [(.agg [.int .i64 12, .int .i64 0, V.txt [], .nil, .nil]), (.int .i64 1), (.int .i64 0)]
def a4 : List V.D := [(.lst [.int .u8 129, .int .u8 2]), (.int .i64 5), (.agg [.int .i64 5, .int .i64 50])]
def r4 : List V.D := [(.int .i64 2), (.int .i64 0)]
def a5 : List V.D := []
def r5 : List V.D := [(.bool true)]
def a6 : List V.D := [(V.txt [97, 46, 83])]
def r6 : List V.D := [d1, (.int .i64 0), .nil]
def a7 : List V.D := [d2, (V.txt [97, 46, 83])]
def r7 : List V.D := [(.bool true)]
def a8 : List V.D := [(V.txt [115, 116, 114, 105, 110, 103])]
def r8 : List V.D := [d3, (.int .i64 11), .nil]
def a9 : List V.D := [d2, (V.txt [115, 116, 114, 105, 110, 103]), (.agg [.int .i64 11, .int .i64 0, V.txt [120], .nil, .nil])]
def r9 : List V.D := [(.bool true)]
def a10 : List V.D := [(V.txt [98, 111, 111, 108])]
def r10 : List V.D := [d4, (.int .i64 2), .nil]
def a11 : List V.D := [(V.txt [105, 51, 50])]
def r11 : List V.D := [d5, (.int .i64 8), .nil]
def a12 : List V.D := [d2, d6, d7]
def r12 : List V.D := [(.bool true)]
def a13 : List V.D := [d2, (V.txt [97, 46, 83]), d7]
def r13 : List V.D := [(.bool true)]
def a14 : List V.D := [d7]
def r14 : List V.D := [(.int .i64 1)]
def a15 : List V.D := [d2, (V.txt [97, 46, 83]), d7, (.agg [.int .i64 3, .int .i64 40])]
def r15 : List V.D := [d8, (.int .i64 0)]
def a16 : List V.D := [d2, (V.txt [98, 111, 111, 108]), (.lst [.int .u8 1]), (.agg [.int .i64 3, .int .i64 40])]
def r16 : List V.D := [(.agg [.int .i64 2, .int .i64 1, V.txt [], .nil, .nil]), (.int .i64 1), (.int .i64 0)]
def a17 : List V.D := [d2, (V.txt [98, 111, 111, 108]), (.lst [.int .u8 2]), (.agg [.int .i64 3, .int .i64 40])]
def r17 : List V.D := [(.agg [.int .i64 2, .int .i64 0, V.txt [], .nil, .nil]), (.int .i64 1), (.int .i64 0)]
def a18 : List V.D := [d2, (V.txt [98, 111, 111, 108]), (.lst [.int .u8 0]), (.agg [.int .i64 3, .int .i64 40])]
def r18 : List V.D := [(.agg [.int .i64 0, .int .i64 0, V.txt [], .nil, .nil]), (.int .i64 0), (.int .i64 2)]
def a19 : List V.D := [d2, (V.txt [105, 49, 54]), (.lst [.int .u8 254, .int .u8 255, .int .u8 3]), (.agg [.int .i64 3, .int .i64 40])]
def r19 : List V.D := [(.agg [.int .i64 6, .int .i64 32767, V.txt [], .nil, .nil]), (.int .i64 3), (.int .i64 0)]
def a20 : List V.D := [d2, (V.txt [105, 49, 54]), (.lst [.int .u8 128, .int .u8 128, .int .u8 4]), (.agg [.int .i64 3, .int .i64 40])]
def r20 : List V.D := [(.agg [.int .i64 0, .int .i64 0, V.txt [], .nil, .nil]), (.int .i64 0), (.int .i64 2)]
def a21 : List V.D := [(V.txt [100, 111, 117, 98, 108, 101])]
def r21 : List V.D := [d9, (.int .i64 4), .nil]
def a22 : List V.D := [d2, (V.txt [100, 111, 117, 98, 108, 101]), d10, (.agg [.int .i64 3, .int .i64 40])]
def r22 : List V.D := [d11, (.int .i64 8), (.int .i64 0)]
def a23 : List V.D := [(V.txt [108, 105, 115, 116, 60, 98, 111, 111, 108, 62])]
def r23 : List V.D := [d12, (.int .i64 15), (.lst [.int .i64 9])]
def a24 : List V.D := [d13]
def r24 : List V.D := [d13, (.int .i64 0)]
def a25 : List V.D := [d2, (V.txt [108, 105, 115, 116, 60, 98, 111, 111, 108, 62]), (.lst [.int .u8 33, .int .u8 1, .int .u8 2]), (.agg [.int .i64 3, .int .i64 40])]
def r25 : List V.D := [d13, (.int .i64 3), (.int .i64 0)]
def a26 : List V.D := [d2, (V.txt [108, 105, 115, 116, 60, 98, 111, 111, 108, 62]), (.lst [.int .u8 34, .int .u8 1, .int .u8 2]), (.agg [.int .i64 3, .int .i64 40])]
def r26 : List V.D := [(.agg [.int .i64 0, .int .i64 0, V.txt [], .nil, .nil]), (.int .i64 0), (.int .i64 2)]
def a27 : List V.D := [(V.txt [108, 105, 115, 116, 60, 105, 56, 62])]
def r27 : List V.D := [d14, (.int .i64 15), (.lst [.int .i64 7])]
def a28 : List V.D := [(V.txt [105, 56])]
def r28 : List V.D := [d15, (.int .i64 3), .nil]
def a29 : List V.D := [d16]
def r29 : List V.D := [d16, (.int .i64 0)]
def a30 : List V.D := [d2, (V.txt [108, 105, 115, 116, 60, 105, 56, 62]), (.lst [.int .u8 243, .int .u8 2, .int .u8 5, .int .u8 6]), (.agg [.int .i64 3, .int .i64 40])]
def r30 : List V.D := [d16, (.int .i64 4), (.int .i64 0)]
def a31 : List V.D := [d2, (V.txt [108, 105, 115, 116, 60, 105, 56, 62]), (.lst [.int .u8 19, .int .u8 5]), (.agg [.int .i64 3, .int .i64 40])]
def r31 : List V.D := [d17, (.int .i64 2), (.int .i64 0)]
def a32 : List V.D := [d2, (V.txt [108, 105, 115, 116, 60, 105, 56, 62]), (.lst [.int .u8 20, .int .u8 5]), (.agg [.int .i64 3, .int .i64 40])]
def r32 : List V.D := [(.agg [.int .i64 0, .int .i64 0, V.txt [], .nil, .nil]), (.int .i64 0), (.int .i64 10)]
def a33 : List V.D := [d18]
def r33 : List V.D := [d19, (.int .i64 13), (.lst [.int .i64 6, .int .i64 11])]
def a34 : List V.D := [d2, d18, (.lst [.int .u8 0]), (.agg [.int .i64 3, .int .i64 40])]
def r34 : List V.D := [(.agg [.int .i64 13, .int .i64 0, V.txt [], .nil, .nil]), (.int .i64 1), (.int .i64 0)]
def a35 : List V.D := [d20]
def r35 : List V.D := [d20, (.int .i64 0)]
def a36 : List V.D := [d2, d18, (.lst [.int .u8 1, .int .u8 49, .int .u8 5, .int .u8 1]), (.agg [.int .i64 3, .int .i64 40])]
def r36 : List V.D := [d20, (.int .i64 4), (.int .i64 0)]
def a37 : List V.D := [d2, d18, (.lst [.int .u8 1, .int .u8 65, .int .u8 5, .int .u8 1]), (.agg [.int .i64 3, .int .i64 40])]
def r37 : List V.D := [(.agg [.int .i64 0, .int .i64 0, V.txt [], .nil, .nil]), (.int .i64 0), (.int .i64 10)]
def a38 : List V.D := [d21]
def r38 : List V.D := [d21, (.int .i64 0)]
def a39 : List V.D := [d2, (V.txt [97, 46, 83]), (.lst [.int .u8 17, .int .u8 0]), (.agg [.int .i64 3, .int .i64 40])]
def r39 : List V.D := [d21, (.int .i64 2), (.int .i64 0)]
def a40 : List V.D := [d22]
def r40 : List V.D := [d22, (.int .i64 0)]
def a41 : List V.D := [d22]
def r41 : List V.D := [d22, (.int .i64 0)]
def a42 : List V.D := [d2, (V.txt [97, 46, 83]), (.lst [.int .u8 18, .int .u8 1, .int .u8 32, .int .u8 0]), (.agg [.int .i64 3, .int .i64 40])]
def r42 : List V.D := [d22, (.int .i64 4), (.int .i64 0)]
def a43 : List V.D := [d2, (V.txt [97, 46, 83]), (.lst [.int .u8 29, .int .u8 0]), (.agg [.int .i64 3, .int .i64 40])]
def r43 : List V.D := [(.agg [.int .i64 0, .int .i64 0, V.txt [], .nil, .nil]), (.int .i64 0), (.int .i64 2)]
def a44 : List V.D := [d2, (V.txt [97, 46, 83]), (.lst [.int .u8 17, .int .u8 1, .int .u8 2, .int .u8 0]), (.agg [.int .i64 3, .int .i64 40])]
def r44 : List V.D := [(.agg [.int .i64 0, .int .i64 0, V.txt [], .nil, .nil]), (.int .i64 0), (.int .i64 8)]
def a45 : List V.D := [d2, (V.txt [97, 46, 83]), (.lst [.int .u8 37, .int .u8 7, .int .u8 0]), (.agg [.int .i64 3, .int .i64 40])]
def r45 : List V.D := [(.agg [.int .i64 12, .int .i64 0, V.txt [], .nil, .nil]), (.int .i64 3), (.int .i64 0)]
def a46 : List V.D := [(V.txt [105, 54, 52])]
def r46 : List V.D := [d23, (.int .i64 10), .nil]
def a47 : List V.D := [d24, (.int .i64 64)]
def r47 : List V.D := [(.int .u64 0), (.int .i64 0), (.int .i64 3)]
def a48 : List V.D := [d25, (.int .i64 64)]
def r48 : List V.D := [(.int .u64 0), (.int .i64 0), (.int .i64 3)]
def a49 : List V.D := [d26, (.int .i64 64)]
def r49 : List V.D := [(.int .u64 0), (.int .i64 0), (.int .i64 3)]
def a50 : List V.D := [d27, (.int .i64 64)]
def r50 : List V.D := [(.int .u64 0), (.int .i64 0), (.int .i64 3)]
def a51 : List V.D := [d28, (.int .i64 64)]
def r51 : List V.D := [(.int .u64 0), (.int .i64 0), (.int .i64 3)]
def a52 : List V.D := [d29, (.int .i64 64)]
def r52 : List V.D := [(.int .u64 0), (.int .i64 0), (.int .i64 3)]
def a53 : List V.D := [d30, (.int .i64 64)]
def r53 : List V.D := [(.int .u64 18446744073709551615), (.int .i64 10), (.int .i64 0)]
def a54 : List V.D := [d2, (V.txt [105, 54, 52]), d30, (.agg [.int .i64 3, .int .i64 40])]
def r54 : List V.D := [d31, (.int .i64 10), (.int .i64 0)]
def a55 : List V.D := [d32, (.int .i64 32)]
def r55 : List V.D := [(.int .u64 0), (.int .i64 0), (.int .i64 3)]
def a56 : List V.D := [d33, (.int .i64 32)]
def r56 : List V.D := [(.int .u64 0), (.int .i64 0), (.int .i64 4)]
def a57 : List V.D := [d2, (V.txt [105, 51, 50]), d33, (.agg [.int .i64 3, .int .i64 40])]
def r57 : List V.D := [(.agg [.int .i64 0, .int .i64 0, V.txt [], .nil, .nil]), (.int .i64 0), (.int .i64 2)]
def a58 : List V.D := [d2, (V.txt [115, 116, 114, 105, 110, 103]), (.lst [.int .u8 1, .int .u8 255]), (.agg [.int .i64 3, .int .i64 40])]
def r58 : List V.D := [(.agg [.int .i64 0, .int .i64 0, V.txt [], .nil, .nil]), (.int .i64 0), (.int .i64 2)]
def t0 : V.Tbl := []
theorem to0 : V.TblOk Tryz.prog t0 := V.TblOk.nil
def an0 : V.An := { io := fun f => [34,79,110,111,140,166,178,179,186,187,189,191,192,193,194,195,196,197,198,199,200,201,202,203,204].contains f, ownRes := fun f => [33,83,104,117,118,138,177].contains f, spec := V.inTbl t0 }
theorem good0 : V.Good Tryz.prog an0 := ⟨named, V.spec_of_tbl to0, fun _ _ _ _ h => nomatch h⟩
set_option maxRecDepth 1000000 in
theorem e0 : V.tells Tryz.prog an0 400 95 a0 r0 = true := by kernel_rfl
theorem h0 : V.Holds Tryz.prog 95 a0 r0 := V.holds_of_tells good0 regs follows e0
set_option maxRecDepth 1000000 in
theorem e3 : V.tells Tryz.prog an0 400 20 a3 r3 = true := by kernel_rfl
theorem h3 : V.Holds Tryz.prog 20 a3 r3 := V.holds_of_tells good0 regs follows e3
set_option maxRecDepth 1000000 in
theorem e4 : V.tells Tryz.prog an0 400 21 a4 r4 = true := by kernel_rfl
theorem h4 : V.Holds Tryz.prog 21 a4 r4 := V.holds_of_tells good0 regs follows e4
set_option maxRecDepth 1000000 in
theorem e6 : V.tells Tryz.prog an0 400 95 a6 r6 = true := by kernel_rfl
theorem h6 : V.Holds Tryz.prog 95 a6 r6 := V.holds_of_tells good0 regs follows e6
set_option maxRecDepth 1000000 in
theorem e8 : V.tells Tryz.prog an0 400 95 a8 r8 = true := by kernel_rfl
theorem h8 : V.Holds Tryz.prog 95 a8 r8 := V.holds_of_tells good0 regs follows e8
set_option maxRecDepth 1000000 in
theorem e10 : V.tells Tryz.prog an0 400 95 a10 r10 = true := by kernel_rfl
theorem h10 : V.Holds Tryz.prog 95 a10 r10 := V.holds_of_tells good0 regs follows e10
set_option maxRecDepth 1000000 in
theorem e11 : V.tells Tryz.prog an0 400 95 a11 r11 = true := by kernel_rfl
theorem h11 : V.Holds Tryz.prog 95 a11 r11 := V.holds_of_tells good0 regs follows e11
set_option maxRecDepth 1000000 in
theorem e14 : V.tells Tryz.prog an0 400 68 a14 r14 = true := by kernel_rfl
theorem h14 : V.Holds Tryz.prog 68 a14 r14 := V.holds_of_tells good0 regs follows e14
set_option maxRecDepth 1000000 in
theorem e21 : V.tells Tryz.prog an0 400 95 a21 r21 = true := by kernel_rfl
theorem h21 : V.Holds Tryz.prog 95 a21 r21 := V.holds_of_tells good0 regs follows e21
set_option maxRecDepth 1000000 in
theorem e23 : V.tells Tryz.prog an0 400 95 a23 r23 = true := by kernel_rfl
theorem h23 : V.Holds Tryz.prog 95 a23 r23 := V.holds_of_tells good0 regs follows e23
set_option maxRecDepth 1000000 in
theorem e24 : V.tells Tryz.prog an0 400 155 a24 r24 = true := by kernel_rfl
theorem h24 : V.Holds Tryz.prog 155 a24 r24 := V.holds_of_tells good0 regs follows e24
set_option maxRecDepth 1000000 in
theorem e27 : V.tells Tryz.prog an0 400 95 a27 r27 = true := by kernel_rfl
theorem h27 : V.Holds Tryz.prog 95 a27 r27 := V.holds_of_tells good0 regs follows e27
set_option maxRecDepth 1000000 in
theorem e28 : V.tells Tryz.prog an0 400 95 a28 r28 = true := by kernel_rfl
theorem h28 : V.Holds Tryz.prog 95 a28 r28 := V.holds_of_tells good0 regs follows e28
set_option maxRecDepth 1000000 in
theorem e29 : V.tells Tryz.prog an0 400 155 a29 r29 = true := by kernel_rfl
theorem h29 : V.Holds Tryz.prog 155 a29 r29 := V.holds_of_tells good0 regs follows e29
set_option maxRecDepth 1000000 in
theorem e33 : V.tells Tryz.prog an0 400 95 a33 r33 = true := by kernel_rfl
theorem h33 : V.Holds Tryz.prog 95 a33 r33 := V.holds_of_tells good0 regs follows e33
set_option maxRecDepth 1000000 in
theorem e35 : V.tells Tryz.prog an0 400 155 a35 r35 = true := by kernel_rfl
theorem h35 : V.Holds Tryz.prog 155 a35 r35 := V.holds_of_tells good0 regs follows e35
set_option maxRecDepth 1000000 in
theorem e38 : V.tells Tryz.prog an0 400 155 a38 r38 = true := by kernel_rfl
theorem h38 : V.Holds Tryz.prog 155 a38 r38 := V.holds_of_tells good0 regs follows e38
set_option maxRecDepth 1000000 in
theorem e40 : V.tells Tryz.prog an0 400 182 a40 r40 = true := by kernel_rfl
theorem h40 : V.Holds Tryz.prog 182 a40 r40 := V.holds_of_tells good0 regs follows e40
set_option maxRecDepth 1000000 in
theorem e46 : V.tells Tryz.prog an0 400 95 a46 r46 = true := by kernel_rfl
theorem h46 : V.Holds Tryz.prog 95 a46 r46 := V.holds_of_tells good0 regs follows e46
set_option maxRecDepth 1000000 in
theorem e47 : V.tells Tryz.prog an0 400 107 a47 r47 = true := by kernel_rfl
theorem h47 : V.Holds Tryz.prog 107 a47 r47 := V.holds_of_tells good0 regs follows e47
set_option maxRecDepth 1000000 in
theorem e48 : V.tells Tryz.prog an0 400 107 a48 r48 = true := by kernel_rfl
theorem h48 : V.Holds Tryz.prog 107 a48 r48 := V.holds_of_tells good0 regs follows e48
set_option maxRecDepth 1000000 in
theorem e49 : V.tells Tryz.prog an0 400 107 a49 r49 = true := by kernel_rfl
theorem h49 : V.Holds Tryz.prog 107 a49 r49 := V.holds_of_tells good0 regs follows e49
set_option maxRecDepth 1000000 in
theorem e50 : V.tells Tryz.prog an0 400 107 a50 r50 = true := by kernel_rfl
theorem h50 : V.Holds Tryz.prog 107 a50 r50 := V.holds_of_tells good0 regs follows e50
set_option maxRecDepth 1000000 in
theorem e51 : V.tells Tryz.prog an0 400 107 a51 r51 = true := by kernel_rfl
theorem h51 : V.Holds Tryz.prog 107 a51 r51 := V.holds_of_tells good0 regs follows e51
set_option maxRecDepth 1000000 in
theorem e52 : V.tells Tryz.prog an0 400 107 a52 r52 = true := by kernel_rfl
theorem h52 : V.Holds Tryz.prog 107 a52 r52 := V.holds_of_tells good0 regs follows e52
set_option maxRecDepth 1000000 in
theorem e53 : V.tells Tryz.prog an0 400 107 a53 r53 = true := by kernel_rfl
theorem h53 : V.Holds Tryz.prog 107 a53 r53 := V.holds_of_tells good0 regs follows e53
set_option maxRecDepth 1000000 in
theorem e55 : V.tells Tryz.prog an0 400 107 a55 r55 = true := by kernel_rfl
theorem h55 : V.Holds Tryz.prog 107 a55 r55 := V.holds_of_tells good0 regs follows e55
set_option maxRecDepth 1000000 in
theorem e56 : V.tells Tryz.prog an0 400 107 a56 r56 = true := by kernel_rfl
theorem h56 : V.Holds Tryz.prog 107 a56 r56 := V.holds_of_tells good0 regs follows e56
def t1 : V.Tbl := [(95, [(a0, r0), (a6, r6), (a8, r8), (a10, r10), (a11, r11), (a21, r21), (a23, r23), (a27, r27), (a28, r28), (a33, r33), (a46, r46)]), (20, [(a3, r3)]), (21, [(a4, r4)]), (68, [(a14, r14)]), (155, [(a24, r24), (a29, r29), (a35, r35), (a38, r38)]), (182, [(a40, r40)]), (107, [(a47, r47), (a48, r48), (a49, r49), (a50, r50), (a51, r51), (a52, r52), (a53, r53), (a55, r55), (a56, r56)])]
theorem to1 : V.TblOk Tryz.prog t1 := (V.TblOk.cons (V.RowOk.cons h0 (V.RowOk.cons h6 (V.RowOk.cons h8 (V.RowOk.cons h10 (V.RowOk.cons h11 (V.RowOk.cons h21 (V.RowOk.cons h23 (V.RowOk.cons h27 (V.RowOk.cons h28 (V.RowOk.cons h33 (V.RowOk.cons h46 V.RowOk.nil))))))))))) (V.TblOk.cons (V.RowOk.cons h3 V.RowOk.nil) (V.TblOk.cons (V.RowOk.cons h4 V.RowOk.nil) (V.TblOk.cons (V.RowOk.cons h14 V.RowOk.nil) (V.TblOk.cons (V.RowOk.cons h24 (V.RowOk.cons h29 (V.RowOk.cons h35 (V.RowOk.cons h38 V.RowOk.nil)))) (V.TblOk.cons (V.RowOk.cons h40 V.RowOk.nil) (V.TblOk.cons (V.RowOk.cons h47 (V.RowOk.cons h48 (V.RowOk.cons h49 (V.RowOk.cons h50 (V.RowOk.cons h51 (V.RowOk.cons h52 (V.RowOk.cons h53 (V.RowOk.cons h55 (V.RowOk.cons h56 V.RowOk.nil))))))))) V.TblOk.nil)))))))
def an1 : V.An := { io := fun f => [34,79,110,111,140,166,178,179,186,187,189,191,192,193,194,195,196,197,198,199,200,201,202,203,204].contains f, ownRes := fun f => [33,83,104,117,118,138,177].contains f, spec := V.inTbl t1 }
theorem good1 : V.Good Tryz.prog an1 := ⟨named, V.spec_of_tbl to1, fun _ _ _ _ h => nomatch h⟩
set_option maxRecDepth 1000000 in
theorem e1 : V.tells Tryz.prog an1 400 7 a1 r1 = true := by kernel_rfl
theorem h1 : V.Holds Tryz.prog 7 a1 r1 := V.holds_of_tells good1 regs follows e1
set_option maxRecDepth 1000000 in
theorem e2 : V.tells Tryz.prog an1 400 8 a2 r2 = true := by kernel_rfl
theorem h2 : V.Holds Tryz.prog 8 a2 r2 := V.holds_of_tells good1 regs follows e2
set_option maxRecDepth 1000000 in
theorem e7 : V.tells Tryz.prog an1 400 22 a7 r7 = true := by kernel_rfl
theorem h7 : V.Holds Tryz.prog 22 a7 r7 := V.holds_of_tells good1 regs follows e7
set_option maxRecDepth 1000000 in
theorem e9 : V.tells Tryz.prog an1 400 23 a9 r9 = true := by kernel_rfl
theorem h9 : V.Holds Tryz.prog 23 a9 r9 := V.holds_of_tells good1 regs follows e9
set_option maxRecDepth 1000000 in
theorem e16 : V.tells Tryz.prog an1 400 8 a16 r16 = true := by kernel_rfl
theorem h16 : V.Holds Tryz.prog 8 a16 r16 := V.holds_of_tells good1 regs follows e16
set_option maxRecDepth 1000000 in
theorem e17 : V.tells Tryz.prog an1 400 8 a17 r17 = true := by kernel_rfl
theorem h17 : V.Holds Tryz.prog 8 a17 r17 := V.holds_of_tells good1 regs follows e17
set_option maxRecDepth 1000000 in
theorem e18 : V.tells Tryz.prog an1 400 8 a18 r18 = true := by kernel_rfl
theorem h18 : V.Holds Tryz.prog 8 a18 r18 := V.holds_of_tells good1 regs follows e18
set_option maxRecDepth 1000000 in
theorem e19 : V.tells Tryz.prog an1 400 8 a19 r19 = true := by kernel_rfl
theorem h19 : V.Holds Tryz.prog 8 a19 r19 := V.holds_of_tells good1 regs follows e19
set_option maxRecDepth 1000000 in
theorem e20 : V.tells Tryz.prog an1 400 8 a20 r20 = true := by kernel_rfl
theorem h20 : V.Holds Tryz.prog 8 a20 r20 := V.holds_of_tells good1 regs follows e20
set_option maxRecDepth 1000000 in
theorem e22 : V.tells Tryz.prog an1 400 8 a22 r22 = true := by kernel_rfl
theorem h22 : V.Holds Tryz.prog 8 a22 r22 := V.holds_of_tells good1 regs follows e22
set_option maxRecDepth 1000000 in
theorem e25 : V.tells Tryz.prog an1 400 8 a25 r25 = true := by kernel_rfl
theorem h25 : V.Holds Tryz.prog 8 a25 r25 := V.holds_of_tells good1 regs follows e25
set_option maxRecDepth 1000000 in
theorem e26 : V.tells Tryz.prog an1 400 8 a26 r26 = true := by kernel_rfl
theorem h26 : V.Holds Tryz.prog 8 a26 r26 := V.holds_of_tells good1 regs follows e26
set_option maxRecDepth 1000000 in
theorem e30 : V.tells Tryz.prog an1 400 8 a30 r30 = true := by kernel_rfl
theorem h30 : V.Holds Tryz.prog 8 a30 r30 := V.holds_of_tells good1 regs follows e30
set_option maxRecDepth 1000000 in
theorem e31 : V.tells Tryz.prog an1 400 8 a31 r31 = true := by kernel_rfl
theorem h31 : V.Holds Tryz.prog 8 a31 r31 := V.holds_of_tells good1 regs follows e31
set_option maxRecDepth 1000000 in
theorem e32 : V.tells Tryz.prog an1 400 8 a32 r32 = true := by kernel_rfl
theorem h32 : V.Holds Tryz.prog 8 a32 r32 := V.holds_of_tells good1 regs follows e32
set_option maxRecDepth 1000000 in
theorem e34 : V.tells Tryz.prog an1 400 8 a34 r34 = true := by kernel_rfl
theorem h34 : V.Holds Tryz.prog 8 a34 r34 := V.holds_of_tells good1 regs follows e34
set_option maxRecDepth 1000000 in
theorem e36 : V.tells Tryz.prog an1 400 8 a36 r36 = true := by kernel_rfl
theorem h36 : V.Holds Tryz.prog 8 a36 r36 := V.holds_of_tells good1 regs follows e36
set_option maxRecDepth 1000000 in
theorem e37 : V.tells Tryz.prog an1 400 8 a37 r37 = true := by kernel_rfl
theorem h37 : V.Holds Tryz.prog 8 a37 r37 := V.holds_of_tells good1 regs follows e37
set_option maxRecDepth 1000000 in
theorem e41 : V.tells Tryz.prog an1 400 155 a41 r41 = true := by kernel_rfl
theorem h41 : V.Holds Tryz.prog 155 a41 r41 := V.holds_of_tells good1 regs follows e41
set_option maxRecDepth 1000000 in
theorem e54 : V.tells Tryz.prog an1 400 8 a54 r54 = true := by kernel_rfl
theorem h54 : V.Holds Tryz.prog 8 a54 r54 := V.holds_of_tells good1 regs follows e54
set_option maxRecDepth 1000000 in
theorem e57 : V.tells Tryz.prog an1 400 8 a57 r57 = true := by kernel_rfl
theorem h57 : V.Holds Tryz.prog 8 a57 r57 := V.holds_of_tells good1 regs follows e57
set_option maxRecDepth 1000000 in
theorem e58 : V.tells Tryz.prog an1 400 8 a58 r58 = true := by kernel_rfl
theorem h58 : V.Holds Tryz.prog 8 a58 r58 := V.holds_of_tells good1 regs follows e58
def t2 : V.Tbl := [(95, [(a0, r0), (a6, r6), (a8, r8), (a10, r10), (a11, r11), (a21, r21), (a23, r23), (a27, r27), (a28, r28), (a33, r33), (a46, r46)]), (7, [(a1, r1)]), (8, [(a2, r2), (a16, r16), (a17, r17), (a18, r18), (a19, r19), (a20, r20), (a22, r22), (a25, r25), (a26, r26), (a30, r30), (a31, r31), (a32, r32), (a34, r34), (a36, r36), (a37, r37), (a54, r54), (a57, r57), (a58, r58)]), (20, [(a3, r3)]), (21, [(a4, r4)]), (22, [(a7, r7)]), (23, [(a9, r9)]), (68, [(a14, r14)]), (155, [(a24, r24), (a29, r29), (a35, r35), (a38, r38), (a41, r41)]), (182, [(a40, r40)]), (107, [(a47, r47), (a48, r48), (a49, r49), (a50, r50), (a51, r51), (a52, r52), (a53, r53), (a55, r55), (a56, r56)])]
theorem to2 : V.TblOk Tryz.prog t2 := (V.TblOk.cons (V.RowOk.cons h0 (V.RowOk.cons h6 (V.RowOk.cons h8 (V.RowOk.cons h10 (V.RowOk.cons h11 (V.RowOk.cons h21 (V.RowOk.cons h23 (V.RowOk.cons h27 (V.RowOk.cons h28 (V.RowOk.cons h33 (V.RowOk.cons h46 V.RowOk.nil))))))))))) (V.TblOk.cons (V.RowOk.cons h1 V.RowOk.nil) (V.TblOk.cons (V.RowOk.cons h2 (V.RowOk.cons h16 (V.RowOk.cons h17 (V.RowOk.cons h18 (V.RowOk.cons h19 (V.RowOk.cons h20 (V.RowOk.cons h22 (V.RowOk.cons h25 (V.RowOk.cons h26 (V.RowOk.cons h30 (V.RowOk.cons h31 (V.RowOk.cons h32 (V.RowOk.cons h34 (V.RowOk.cons h36 (V.RowOk.cons h37 (V.RowOk.cons h54 (V.RowOk.cons h57 (V.RowOk.cons h58 V.RowOk.nil)))))))))))))))))) (V.TblOk.cons (V.RowOk.cons h3 V.RowOk.nil) (V.TblOk.cons (V.RowOk.cons h4 V.RowOk.nil) (V.TblOk.cons (V.RowOk.cons h7 V.RowOk.nil) (V.TblOk.cons (V.RowOk.cons h9 V.RowOk.nil) (V.TblOk.cons (V.RowOk.cons h14 V.RowOk.nil) (V.TblOk.cons (V.RowOk.cons h24 (V.RowOk.cons h29 (V.RowOk.cons h35 (V.RowOk.cons h38 (V.RowOk.cons h41 V.RowOk.nil))))) (V.TblOk.cons (V.RowOk.cons h40 V.RowOk.nil) (V.TblOk.cons (V.RowOk.cons h47 (V.RowOk.cons h48 (V.RowOk.cons h49 (V.RowOk.cons h50 (V.RowOk.cons h51 (V.RowOk.cons h52 (V.RowOk.cons h53 (V.RowOk.cons h55 (V.RowOk.cons h56 V.RowOk.nil))))))))) V.TblOk.nil)))))))))))
def an2 : V.An := { io := fun f => [34,79,110,111,140,166,178,179,186,187,189,191,192,193,194,195,196,197,198,199,200,201,202,203,204].contains f, ownRes := fun f => [33,83,104,117,118,138,177].contains f, spec := V.inTbl t2 }
theorem good2 : V.Good Tryz.prog an2 := ⟨named, V.spec_of_tbl to2, fun _ _ _ _ h => nomatch h⟩
set_option maxRecDepth 1000000 in
theorem e5 : V.tells Tryz.prog an2 400 6 a5 r5 = true := by kernel_rfl
theorem h5 : V.Holds Tryz.prog 6 a5 r5 := V.holds_of_tells good2 regs follows e5
set_option maxRecDepth 1000000 in
theorem e12 : V.tells Tryz.prog an2 400 44 a12 r12 = true := by kernel_rfl
theorem h12 : V.Holds Tryz.prog 44 a12 r12 := V.holds_of_tells good2 regs follows e12
set_option maxRecDepth 1000000 in
theorem e39 : V.tells Tryz.prog an2 400 8 a39 r39 = true := by kernel_rfl
theorem h39 : V.Holds Tryz.prog 8 a39 r39 := V.holds_of_tells good2 regs follows e39
set_option maxRecDepth 1000000 in
theorem e42 : V.tells Tryz.prog an2 400 8 a42 r42 = true := by kernel_rfl
theorem h42 : V.Holds Tryz.prog 8 a42 r42 := V.holds_of_tells good2 regs follows e42
set_option maxRecDepth 1000000 in
theorem e43 : V.tells Tryz.prog an2 400 8 a43 r43 = true := by kernel_rfl
theorem h43 : V.Holds Tryz.prog 8 a43 r43 := V.holds_of_tells good2 regs follows e43
set_option maxRecDepth 1000000 in
theorem e44 : V.tells Tryz.prog an2 400 8 a44 r44 = true := by kernel_rfl
theorem h44 : V.Holds Tryz.prog 8 a44 r44 := V.holds_of_tells good2 regs follows e44
set_option maxRecDepth 1000000 in
theorem e45 : V.tells Tryz.prog an2 400 8 a45 r45 = true := by kernel_rfl
theorem h45 : V.Holds Tryz.prog 8 a45 r45 := V.holds_of_tells good2 regs follows e45
def t3 : V.Tbl := [(95, [(a0, r0), (a6, r6), (a8, r8), (a10, r10), (a11, r11), (a21, r21), (a23, r23), (a27, r27), (a28, r28), (a33, r33), (a46, r46)]), (7, [(a1, r1)]), (8, [(a2, r2), (a16, r16), (a17, r17), (a18, r18), (a19, r19), (a20, r20), (a22, r22), (a25, r25), (a26, r26), (a30, r30), (a31, r31), (a32, r32), (a34, r34), (a36, r36), (a37, r37), (a39, r39), (a42, r42), (a43, r43), (a44, r44), (a45, r45), (a54, r54), (a57, r57), (a58, r58)]), (20, [(a3, r3)]), (21, [(a4, r4)]), (6, [(a5, r5)]), (22, [(a7, r7)]), (23, [(a9, r9)]), (44, [(a12, r12)]), (68, [(a14, r14)]), (155, [(a24, r24), (a29, r29), (a35, r35), (a38, r38), (a41, r41)]), (182, [(a40, r40)]), (107, [(a47, r47), (a48, r48), (a49, r49), (a50, r50), (a51, r51), (a52, r52), (a53, r53), (a55, r55), (a56, r56)])]
theorem to3 : V.TblOk Tryz.prog t3 := (V.TblOk.cons (V.RowOk.cons h0 (V.RowOk.cons h6 (V.RowOk.cons h8 (V.RowOk.cons h10 (V.RowOk.cons h11 (V.RowOk.cons h21 (V.RowOk.cons h23 (V.RowOk.cons h27 (V.RowOk.cons h28 (V.RowOk.cons h33 (V.RowOk.cons h46 V.RowOk.nil))))))))))) (V.TblOk.cons (V.RowOk.cons h1 V.RowOk.nil) (V.TblOk.cons (V.RowOk.cons h2 (V.RowOk.cons h16 (V.RowOk.cons h17 (V.RowOk.cons h18 (V.RowOk.cons h19 (V.RowOk.cons h20 (V.RowOk.cons h22 (V.RowOk.cons h25 (V.RowOk.cons h26 (V.RowOk.cons h30 (V.RowOk.cons h31 (V.RowOk.cons h32 (V.RowOk.cons h34 (V.RowOk.cons h36 (V.RowOk.cons h37 (V.RowOk.cons h39 (V.RowOk.cons h42 (V.RowOk.cons h43 (V.RowOk.cons h44 (V.RowOk.cons h45 (V.RowOk.cons h54 (V.RowOk.cons h57 (V.RowOk.cons h58 V.RowOk.nil))))))))))))))))))))))) (V.TblOk.cons (V.RowOk.cons h3 V.RowOk.nil) (V.TblOk.cons (V.RowOk.cons h4 V.RowOk.nil) (V.TblOk.cons (V.RowOk.cons h5 V.RowOk.nil) (V.TblOk.cons (V.RowOk.cons h7 V.RowOk.nil) (V.TblOk.cons (V.RowOk.cons h9 V.RowOk.nil) (V.TblOk.cons (V.RowOk.cons h12 V.RowOk.nil) (V.TblOk.cons (V.RowOk.cons h14 V.RowOk.nil) (V.TblOk.cons (V.RowOk.cons h24 (V.RowOk.cons h29 (V.RowOk.cons h35 (V.RowOk.cons h38 (V.RowOk.cons h41 V.RowOk.nil))))) (V.TblOk.cons (V.RowOk.cons h40 V.RowOk.nil) (V.TblOk.cons (V.RowOk.cons h47 (V.RowOk.cons h48 (V.RowOk.cons h49 (V.RowOk.cons h50 (V.RowOk.cons h51 (V.RowOk.cons h52 (V.RowOk.cons h53 (V.RowOk.cons h55 (V.RowOk.cons h56 V.RowOk.nil))))))))) V.TblOk.nil)))))))))))))
def an3 : V.An := { io := fun f => [34,79,110,111,140,166,178,179,186,187,189,191,192,193,194,195,196,197,198,199,200,201,202,203,204].contains f, ownRes := fun f => [33,83,104,117,118,138,177].contains f, spec := V.inTbl t3 }
theorem good3 : V.Good Tryz.prog an3 := ⟨named, V.spec_of_tbl to3, fun _ _ _ _ h => nomatch h⟩
set_option maxRecDepth 1000000 in
theorem e13 : V.tells Tryz.prog an3 400 23 a13 r13 = true := by kernel_rfl
theorem h13 : V.Holds Tryz.prog 23 a13 r13 := V.holds_of_tells good3 regs follows e13
def t4 : V.Tbl := [(95, [(a0, r0), (a6, r6), (a8, r8), (a10, r10), (a11, r11), (a21, r21), (a23, r23), (a27, r27), (a28, r28), (a33, r33), (a46, r46)]), (7, [(a1, r1)]), (8, [(a2, r2), (a16, r16), (a17, r17), (a18, r18), (a19, r19), (a20, r20), (a22, r22), (a25, r25), (a26, r26), (a30, r30), (a31, r31), (a32, r32), (a34, r34), (a36, r36), (a37, r37), (a39, r39), (a42, r42), (a43, r43), (a44, r44), (a45, r45), (a54, r54), (a57, r57), (a58, r58)]), (20, [(a3, r3)]), (21, [(a4, r4)]), (6, [(a5, r5)]), (22, [(a7, r7)]), (23, [(a9, r9), (a13, r13)]), (44, [(a12, r12)]), (68, [(a14, r14)]), (155, [(a24, r24), (a29, r29), (a35, r35), (a38, r38), (a41, r41)]), (182, [(a40, r40)]), (107, [(a47, r47), (a48, r48), (a49, r49), (a50, r50), (a51, r51), (a52, r52), (a53, r53), (a55, r55), (a56, r56)])]
theorem to4 : V.TblOk Tryz.prog t4 := (V.TblOk.cons (V.RowOk.cons h0 (V.RowOk.cons h6 (V.RowOk.cons h8 (V.RowOk.cons h10 (V.RowOk.cons h11 (V.RowOk.cons h21 (V.RowOk.cons h23 (V.RowOk.cons h27 (V.RowOk.cons h28 (V.RowOk.cons h33 (V.RowOk.cons h46 V.RowOk.nil))))))))))) (V.TblOk.cons (V.RowOk.cons h1 V.RowOk.nil) (V.TblOk.cons (V.RowOk.cons h2 (V.RowOk.cons h16 (V.RowOk.cons h17 (V.RowOk.cons h18 (V.RowOk.cons h19 (V.RowOk.cons h20 (V.RowOk.cons h22 (V.RowOk.cons h25 (V.RowOk.cons h26 (V.RowOk.cons h30 (V.RowOk.cons h31 (V.RowOk.cons h32 (V.RowOk.cons h34 (V.RowOk.cons h36 (V.RowOk.cons h37 (V.RowOk.cons h39 (V.RowOk.cons h42 (V.RowOk.cons h43 (V.RowOk.cons h44 (V.RowOk.cons h45 (V.RowOk.cons h54 (V.RowOk.cons h57 (V.RowOk.cons h58 V.RowOk.nil))))))))))))))))))))))) (V.TblOk.cons (V.RowOk.cons h3 V.RowOk.nil) (V.TblOk.cons (V.RowOk.cons h4 V.RowOk.nil) (V.TblOk.cons (V.RowOk.cons h5 V.RowOk.nil) (V.TblOk.cons (V.RowOk.cons h7 V.RowOk.nil) (V.TblOk.cons (V.RowOk.cons h9 (V.RowOk.cons h13 V.RowOk.nil)) (V.TblOk.cons (V.RowOk.cons h12 V.RowOk.nil) (V.TblOk.cons (V.RowOk.cons h14 V.RowOk.nil) (V.TblOk.cons (V.RowOk.cons h24 (V.RowOk.cons h29 (V.RowOk.cons h35 (V.RowOk.cons h38 (V.RowOk.cons h41 V.RowOk.nil))))) (V.TblOk.cons (V.RowOk.cons h40 V.RowOk.nil) (V.TblOk.cons (V.RowOk.cons h47 (V.RowOk.cons h48 (V.RowOk.cons h49 (V.RowOk.cons h50 (V.RowOk.cons h51 (V.RowOk.cons h52 (V.RowOk.cons h53 (V.RowOk.cons h55 (V.RowOk.cons h56 V.RowOk.nil))))))))) V.TblOk.nil)))))))))))))
def an4 : V.An := { io := fun f => [34,79,110,111,140,166,178,179,186,187,189,191,192,193,194,195,196,197,198,199,200,201,202,203,204].contains f, ownRes := fun f => [33,83,104,117,118,138,177].contains f, spec := V.inTbl t4 }
theorem good4 : V.Good Tryz.prog an4 := ⟨named, V.spec_of_tbl to4, fun _ _ _ _ h => nomatch h⟩
set_option maxRecDepth 1000000 in
theorem e15 : V.tells Tryz.prog an4 400 7 a15 r15 = true := by kernel_rfl
theorem h15 : V.Holds Tryz.prog 7 a15 r15 := V.holds_of_tells good4 regs follows e15
def t5 : V.Tbl := [(95, [(a0, r0), (a6, r6), (a8, r8), (a10, r10), (a11, r11), (a21, r21), (a23, r23), (a27, r27), (a28, r28), (a33, r33), (a46, r46)]), (7, [(a1, r1), (a15, r15)]), (8, [(a2, r2), (a16, r16), (a17, r17), (a18, r18), (a19, r19), (a20, r20), (a22, r22), (a25, r25), (a26, r26), (a30, r30), (a31, r31), (a32, r32), (a34, r34), (a36, r36), (a37, r37), (a39, r39), (a42, r42), (a43, r43), (a44, r44), (a45, r45), (a54, r54), (a57, r57), (a58, r58)]), (20, [(a3, r3)]), (21, [(a4, r4)]), (6, [(a5, r5)]), (22, [(a7, r7)]), (23, [(a9, r9), (a13, r13)]), (44, [(a12, r12)]), (68, [(a14, r14)]), (155, [(a24, r24), (a29, r29), (a35, r35), (a38, r38), (a41, r41)]), (182, [(a40, r40)]), (107, [(a47, r47), (a48, r48), (a49, r49), (a50, r50), (a51, r51), (a52, r52), (a53, r53), (a55, r55), (a56, r56)])]
theorem to5 : V.TblOk Tryz.prog t5 := (V.TblOk.cons (V.RowOk.cons h0 (V.RowOk.cons h6 (V.RowOk.cons h8 (V.RowOk.cons h10 (V.RowOk.cons h11 (V.RowOk.cons h21 (V.RowOk.cons h23 (V.RowOk.cons h27 (V.RowOk.cons h28 (V.RowOk.cons h33 (V.RowOk.cons h46 V.RowOk.nil))))))))))) (V.TblOk.cons (V.RowOk.cons h1 (V.RowOk.cons h15 V.RowOk.nil)) (V.TblOk.cons (V.RowOk.cons h2 (V.RowOk.cons h16 (V.RowOk.cons h17 (V.RowOk.cons h18 (V.RowOk.cons h19 (V.RowOk.cons h20 (V.RowOk.cons h22 (V.RowOk.cons h25 (V.RowOk.cons h26 (V.RowOk.cons h30 (V.RowOk.cons h31 (V.RowOk.cons h32 (V.RowOk.cons h34 (V.RowOk.cons h36 (V.RowOk.cons h37 (V.RowOk.cons h39 (V.RowOk.cons h42 (V.RowOk.cons h43 (V.RowOk.cons h44 (V.RowOk.cons h45 (V.RowOk.cons h54 (V.RowOk.cons h57 (V.RowOk.cons h58 V.RowOk.nil))))))))))))))))))))))) (V.TblOk.cons (V.RowOk.cons h3 V.RowOk.nil) (V.TblOk.cons (V.RowOk.cons h4 V.RowOk.nil) (V.TblOk.cons (V.RowOk.cons h5 V.RowOk.nil) (V.TblOk.cons (V.RowOk.cons h7 V.RowOk.nil) (V.TblOk.cons (V.RowOk.cons h9 (V.RowOk.cons h13 V.RowOk.nil)) (V.TblOk.cons (V.RowOk.cons h12 V.RowOk.nil) (V.TblOk.cons (V.RowOk.cons h14 V.RowOk.nil) (V.TblOk.cons (V.RowOk.cons h24 (V.RowOk.cons h29 (V.RowOk.cons h35 (V.RowOk.cons h38 (V.RowOk.cons h41 V.RowOk.nil))))) (V.TblOk.cons (V.RowOk.cons h40 V.RowOk.nil) (V.TblOk.cons (V.RowOk.cons h47 (V.RowOk.cons h48 (V.RowOk.cons h49 (V.RowOk.cons h50 (V.RowOk.cons h51 (V.RowOk.cons h52 (V.RowOk.cons h53 (V.RowOk.cons h55 (V.RowOk.cons h56 V.RowOk.nil))))))))) V.TblOk.nil)))))))))))))
def an5 : V.An := { io := fun f => [34,79,110,111,140,166,178,179,186,187,189,191,192,193,194,195,196,197,198,199,200,201,202,203,204].contains f, ownRes := fun f => [33,83,104,117,118,138,177].contains f, spec := V.inTbl t5 }
theorem good5 : V.Good Tryz.prog an5 := ⟨named, V.spec_of_tbl to5, fun _ _ _ _ h => nomatch h⟩
set_option maxRecDepth 1000000 in
theorem TcompForms : ∃ k, V.yes (V.pcall Tryz.prog an5 k 3 [] [] 0) = true := ⟨400, by kernel_rfl⟩
theorem good : V.Good Tryz.prog an5 := good5
end Go.Proofs.YtdgihefkagoicaaGreat.Say
