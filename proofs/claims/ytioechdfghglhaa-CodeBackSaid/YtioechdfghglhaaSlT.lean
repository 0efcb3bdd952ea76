/- What the type table says: printed by a program of this session. -/
import Derived.Test.YtioechdfghglhaaSlO
import Derived.Test.YtioechdfghglhaaProg
namespace Go.Proofs.Ytioechdfghglhaa
open Go Go.RowKit SL

theorem ag_127 : aggOf Try.prog 127 = some true := by kernel_rfl
theorem ag_2 : aggOf Try.prog 2 = some false := by kernel_rfl
theorem ag_26 : aggOf Try.prog 26 = some false := by kernel_rfl
theorem ag_3 : aggOf Try.prog 3 = some false := by kernel_rfl
theorem ag_31 : aggOf Try.prog 31 = some false := by kernel_rfl
theorem ag_37 : aggOf Try.prog 37 = some false := by kernel_rfl
theorem ag_4 : aggOf Try.prog 4 = some false := by kernel_rfl
theorem ag_5 : aggOf Try.prog 5 = some false := by kernel_rfl
theorem ag_67 : aggOf Try.prog 67 = some false := by kernel_rfl
theorem ag_69 : aggOf Try.prog 69 = some true := by kernel_rfl
theorem ag_70 : aggOf Try.prog 70 = some false := by kernel_rfl
theorem ag_72 : aggOf Try.prog 72 = some true := by kernel_rfl
theorem ag_74 : aggOf Try.prog 74 = some true := by kernel_rfl
theorem ag_86 : aggOf Try.prog 86 = some true := by kernel_rfl
theorem ag_9 : aggOf Try.prog 9 = some false := by kernel_rfl
theorem bi_113 : buildInfo Try.prog 113 = some [(0, 1), (1, 1)] := by kernel_rfl
theorem bi_127 : buildInfo Try.prog 127 = some [(0, 1), (1, 3)] := by kernel_rfl
theorem bi_138 : buildInfo Try.prog 138 = some [] := by kernel_rfl
theorem bi_30 : buildInfo Try.prog 30 = some [(0, 1)] := by kernel_rfl
theorem bi_69 : buildInfo Try.prog 69 = some [(0, 1), (1, 1), (2, 1)] := by kernel_rfl
theorem bi_72 : buildInfo Try.prog 72 = some [(0, 1), (1, 1), (2, 3), (5, 1)] := by kernel_rfl
theorem bi_80 : buildInfo Try.prog 80 = some [(0, 1), (1, 1)] := by kernel_rfl
theorem bi_86 : buildInfo Try.prog 86 = some [(0, 1), (1, 1)] := by kernel_rfl
theorem cal_100 : callable Try.prog 100 = true := by kernel_rfl
theorem cal_101 : callable Try.prog 101 = true := by kernel_rfl
theorem cal_102 : callable Try.prog 102 = true := by kernel_rfl
theorem cal_15 : callable Try.prog 15 = true := by kernel_rfl
theorem cal_16 : callable Try.prog 16 = true := by kernel_rfl
theorem cal_17 : callable Try.prog 17 = true := by kernel_rfl
theorem cal_18 : callable Try.prog 18 = true := by kernel_rfl
theorem cal_19 : callable Try.prog 19 = true := by kernel_rfl
theorem cal_20 : callable Try.prog 20 = true := by kernel_rfl
theorem cal_21 : callable Try.prog 21 = true := by kernel_rfl
theorem cal_22 : callable Try.prog 22 = true := by kernel_rfl
theorem cal_28 : callable Try.prog 28 = true := by kernel_rfl
theorem cal_29 : callable Try.prog 29 = true := by kernel_rfl
theorem cal_30 : callable Try.prog 30 = true := by kernel_rfl
theorem cal_31 : callable Try.prog 31 = true := by kernel_rfl
theorem cal_32 : callable Try.prog 32 = true := by kernel_rfl
theorem cal_33 : callable Try.prog 33 = true := by kernel_rfl
theorem cal_34 : callable Try.prog 34 = true := by kernel_rfl
theorem cal_35 : callable Try.prog 35 = true := by kernel_rfl
theorem cal_36 : callable Try.prog 36 = true := by kernel_rfl
theorem cal_37 : callable Try.prog 37 = true := by kernel_rfl
theorem cal_38 : callable Try.prog 38 = true := by kernel_rfl
theorem cal_39 : callable Try.prog 39 = true := by kernel_rfl
theorem cal_40 : callable Try.prog 40 = true := by kernel_rfl
theorem cal_41 : callable Try.prog 41 = true := by kernel_rfl
theorem cal_42 : callable Try.prog 42 = true := by kernel_rfl
theorem cal_43 : callable Try.prog 43 = true := by kernel_rfl
theorem cal_44 : callable Try.prog 44 = true := by kernel_rfl
theorem cal_45 : callable Try.prog 45 = true := by kernel_rfl
theorem cal_46 : callable Try.prog 46 = true := by kernel_rfl
theorem cal_47 : callable Try.prog 47 = true := by kernel_rfl
theorem cal_59 : callable Try.prog 59 = true := by kernel_rfl
theorem cal_60 : callable Try.prog 60 = true := by kernel_rfl
theorem cal_61 : callable Try.prog 61 = true := by kernel_rfl
theorem cal_62 : callable Try.prog 62 = true := by kernel_rfl
theorem cal_70 : callable Try.prog 70 = true := by kernel_rfl
theorem cal_71 : callable Try.prog 71 = true := by kernel_rfl
theorem cal_72 : callable Try.prog 72 = true := by kernel_rfl
theorem cal_73 : callable Try.prog 73 = true := by kernel_rfl
theorem cal_74 : callable Try.prog 74 = true := by kernel_rfl
theorem cal_75 : callable Try.prog 75 = true := by kernel_rfl
theorem cal_76 : callable Try.prog 76 = true := by kernel_rfl
theorem cal_77 : callable Try.prog 77 = true := by kernel_rfl
theorem cal_78 : callable Try.prog 78 = true := by kernel_rfl
theorem cal_79 : callable Try.prog 79 = true := by kernel_rfl
theorem cal_80 : callable Try.prog 80 = true := by kernel_rfl
theorem cal_81 : callable Try.prog 81 = true := by kernel_rfl
theorem cal_82 : callable Try.prog 82 = true := by kernel_rfl
theorem cal_83 : callable Try.prog 83 = true := by kernel_rfl
theorem cal_84 : callable Try.prog 84 = true := by kernel_rfl
theorem cal_85 : callable Try.prog 85 = true := by kernel_rfl
theorem cal_86 : callable Try.prog 86 = true := by kernel_rfl
theorem cal_87 : callable Try.prog 87 = true := by kernel_rfl
theorem cal_90 : callable Try.prog 90 = true := by kernel_rfl
theorem cal_91 : callable Try.prog 91 = true := by kernel_rfl
theorem cal_92 : callable Try.prog 92 = true := by kernel_rfl
theorem cal_98 : callable Try.prog 98 = true := by kernel_rfl
theorem cal_99 : callable Try.prog 99 = true := by kernel_rfl
theorem eg_127 : Try.prog.eqGuardType Try.prog.depth 127 = false := by kernel_rfl
theorem eg_69 : Try.prog.eqGuardType Try.prog.depth 69 = false := by kernel_rfl
theorem eg_86 : Try.prog.eqGuardType Try.prog.depth 86 = false := by kernel_rfl
theorem ek_127 : eqKs Try.prog 9 127 = some [.str, .bool, .int .i64, .int .i64] := by kernel_rfl
theorem ek_69 : eqKs Try.prog 9 69 = some [.bool, .int .i64, .int .i64] := by kernel_rfl
theorem ek_86 : eqKs Try.prog 9 86 = some [.int .i64, .int .i64] := by kernel_rfl
theorem el_127 : elOf Try.prog 127 = some (4, 40) := by kernel_rfl
theorem el_3 : elOf Try.prog 3 = some (1, 8) := by kernel_rfl
theorem el_5 : elOf Try.prog 5 = some (1, 1) := by kernel_rfl
theorem el_86 : elOf Try.prog 86 = some (2, 16) := by kernel_rfl
theorem el_9 : elOf Try.prog 9 = some (1, 16) := by kernel_rfl
theorem fo_113_0 : fieldOff Try.prog 113 0 = some 0 := by kernel_rfl
theorem fo_113_1 : fieldOff Try.prog 113 1 = some 1 := by kernel_rfl
theorem fo_127_0 : fieldOff Try.prog 127 0 = some 0 := by kernel_rfl
theorem fo_127_1 : fieldOff Try.prog 127 1 = some 1 := by kernel_rfl
theorem fo_28_0 : fieldOff Try.prog 28 0 = some 0 := by kernel_rfl
theorem fo_30_0 : fieldOff Try.prog 30 0 = some 0 := by kernel_rfl
theorem fo_69_0 : fieldOff Try.prog 69 0 = some 0 := by kernel_rfl
theorem fo_69_1 : fieldOff Try.prog 69 1 = some 1 := by kernel_rfl
theorem fo_69_2 : fieldOff Try.prog 69 2 = some 2 := by kernel_rfl
theorem fo_72_0 : fieldOff Try.prog 72 0 = some 0 := by kernel_rfl
theorem fo_72_1 : fieldOff Try.prog 72 1 = some 1 := by kernel_rfl
theorem fo_72_2 : fieldOff Try.prog 72 2 = some 2 := by kernel_rfl
theorem fo_72_3 : fieldOff Try.prog 72 3 = some 5 := by kernel_rfl
theorem fo_74_0 : fieldOff Try.prog 74 0 = some 0 := by kernel_rfl
theorem fo_74_1 : fieldOff Try.prog 74 1 = some 1 := by kernel_rfl
theorem fo_74_2 : fieldOff Try.prog 74 2 = some 2 := by kernel_rfl
theorem fo_74_3 : fieldOff Try.prog 74 3 = some 3 := by kernel_rfl
theorem fo_80_0 : fieldOff Try.prog 80 0 = some 0 := by kernel_rfl
theorem fo_80_1 : fieldOff Try.prog 80 1 = some 1 := by kernel_rfl
theorem fo_86_0 : fieldOff Try.prog 86 0 = some 0 := by kernel_rfl
theorem fo_86_1 : fieldOff Try.prog 86 1 = some 1 := by kernel_rfl
theorem ii_20 : isIf Try.prog 20 = true := by kernel_rfl
theorem is_2 : (Try.prog.underlying 2).isSome = true := by kernel_rfl
theorem is_3 : (Try.prog.underlying 3).isSome = true := by kernel_rfl
theorem is_37 : (Try.prog.underlying 37).isSome = true := by kernel_rfl
theorem is_5 : (Try.prog.underlying 5).isSome = true := by kernel_rfl
theorem mixed : Try.prog.follows .mixedOrders = true := by kernel_rfl
theorem ni_138 : notIf Try.prog 138 = true := by kernel_rfl
theorem sz_127 : szOf Try.prog 127 = some 4 := by kernel_rfl
theorem sz_138 : szOf Try.prog 138 = some 0 := by kernel_rfl
theorem sz_2 : szOf Try.prog 2 = some 1 := by kernel_rfl
theorem sz_26 : szOf Try.prog 26 = some 1 := by kernel_rfl
theorem sz_3 : szOf Try.prog 3 = some 1 := by kernel_rfl
theorem sz_37 : szOf Try.prog 37 = some 1 := by kernel_rfl
theorem sz_4 : szOf Try.prog 4 = some 1 := by kernel_rfl
theorem sz_5 : szOf Try.prog 5 = some 1 := by kernel_rfl
theorem sz_67 : szOf Try.prog 67 = some 1 := by kernel_rfl
theorem sz_69 : szOf Try.prog 69 = some 3 := by kernel_rfl
theorem sz_70 : szOf Try.prog 70 = some 1 := by kernel_rfl
theorem sz_72 : szOf Try.prog 72 = some 6 := by kernel_rfl
theorem sz_74 : szOf Try.prog 74 = some 9 := by kernel_rfl
theorem sz_86 : szOf Try.prog 86 = some 2 := by kernel_rfl
theorem sz_9 : szOf Try.prog 9 = some 1 := by kernel_rfl
theorem u_110 : Try.prog.underlying 110 = some (.int .u64) := by kernel_rfl
theorem u_124 : Try.prog.underlying 124 = some (.slice 72) := by kernel_rfl
theorem u_2 : Try.prog.underlying 2 = some (.int .i64) := by kernel_rfl
theorem u_23 : Try.prog.underlying 23 = some (.pointer 30) := by kernel_rfl
theorem u_26 : Try.prog.underlying 26 = some (.slice 5) := by kernel_rfl
theorem u_3 : Try.prog.underlying 3 = some (.int .i64) := by kernel_rfl
theorem u_31 : Try.prog.underlying 31 = some (.pointer 113) := by kernel_rfl
theorem u_37 : Try.prog.underlying 37 = some (.int .u64) := by kernel_rfl
theorem u_4 : Try.prog.underlying 4 = some .bool := by kernel_rfl
theorem u_5 : Try.prog.underlying 5 = some (.int .u8) := by kernel_rfl
theorem u_51 : Try.prog.underlying 51 = some (.slice 37) := by kernel_rfl
theorem u_52 : Try.prog.underlying 52 = some (.slice 2) := by kernel_rfl
theorem u_53 : Try.prog.underlying 53 = some (.slice 9) := by kernel_rfl
theorem u_54 : Try.prog.underlying 54 = some (.slice 4) := by kernel_rfl
theorem u_59 : Try.prog.underlying 59 = some (.slice 3) := by kernel_rfl
theorem u_64 : Try.prog.underlying 64 = some (.slice 74) := by kernel_rfl
theorem u_67 : Try.prog.underlying 67 = some (.slice 86) := by kernel_rfl
theorem u_70 : Try.prog.underlying 70 = some (.slice 127) := by kernel_rfl
theorem u_9 : Try.prog.underlying 9 = some .string := by kernel_rfl
theorem zd_113 : zeroDs Try.prog 113 = some [.fix [], .val (.bool false)] := by kernel_rfl
theorem zd_127 : zeroDs Try.prog 127 = some [.val (.str []), .val (.bool false), .val (.int .i64 0), .val (.int .i64 0)] := by kernel_rfl
theorem zd_138 : zeroDs Try.prog 138 = some [] := by kernel_rfl
theorem zd_2 : zeroDs Try.prog 2 = some [.val (.int .i64 0)] := by kernel_rfl
theorem zd_30 : zeroDs Try.prog 30 = some [.fix []] := by kernel_rfl
theorem zd_37 : zeroDs Try.prog 37 = some [.val (.int .u64 0)] := by kernel_rfl
theorem zd_4 : zeroDs Try.prog 4 = some [.val (.bool false)] := by kernel_rfl
theorem zd_69 : zeroDs Try.prog 69 = some [.val (.bool false), .val (.int .i64 0), .val (.int .i64 0)] := by kernel_rfl
theorem zd_72 : zeroDs Try.prog 72 = some [.fix [], .val (.bool false), .val (.bool false), .val (.int .i64 0), .val (.int .i64 0), .fix []] := by kernel_rfl
theorem zd_80 : zeroDs Try.prog 80 = some [.fix [], .val (.bool false)] := by kernel_rfl
theorem zd_86 : zeroDs Try.prog 86 = some [.val (.int .i64 0), .val (.int .i64 0)] := by kernel_rfl
theorem zd_9 : zeroDs Try.prog 9 = some [.val (.str [])] := by kernel_rfl
theorem zs_127 : (zeroOf Try.prog 127).isSome = true := by kernel_rfl
theorem zs_2 : (zeroOf Try.prog 2).isSome = true := by kernel_rfl
theorem zs_3 : (zeroOf Try.prog 3).isSome = true := by kernel_rfl
theorem zs_37 : (zeroOf Try.prog 37).isSome = true := by kernel_rfl
theorem zs_4 : (zeroOf Try.prog 4).isSome = true := by kernel_rfl
theorem zs_5 : (zeroOf Try.prog 5).isSome = true := by kernel_rfl
theorem zs_72 : (zeroOf Try.prog 72).isSome = true := by kernel_rfl
theorem zs_86 : (zeroOf Try.prog 86).isSome = true := by kernel_rfl
theorem zs_9 : (zeroOf Try.prog 9).isSome = true := by kernel_rfl
end Go.Proofs.Ytioechdfghglhaa
