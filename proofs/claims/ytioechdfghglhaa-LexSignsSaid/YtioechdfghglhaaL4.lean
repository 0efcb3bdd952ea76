/- Merged: the program logic, plain laws and walks (each part's first row says what it is); no conditions of its own. -/
import Derived.Test.YtioechdfghglhaaL2
import Derived.Test.YtioechdfghglhaaProg
import Derived.Test.YtioechdfghglhaaL3

/- What the type table says: printed by a program of this session. -/
namespace Go.Proofs.Ytioechdfghglhaa
open Go Go.RowKit SL

theorem ag_127 : aggOf Try.prog 127 = some true := by kernel_rfl
theorem ag_2 : aggOf Try.prog 2 = some false := by kernel_rfl
theorem ag_26 : aggOf Try.prog 26 = some false := by kernel_rfl
theorem ag_3 : aggOf Try.prog 3 = some false := by kernel_rfl
theorem ag_31 : aggOf Try.prog 31 = some false := by kernel_rfl
theorem ag_35 : aggOf Try.prog 35 = some false := by kernel_rfl
theorem ag_37 : aggOf Try.prog 37 = some false := by kernel_rfl
theorem ag_4 : aggOf Try.prog 4 = some false := by kernel_rfl
theorem ag_45 : aggOf Try.prog 45 = some true := by kernel_rfl
theorem ag_5 : aggOf Try.prog 5 = some false := by kernel_rfl
theorem ag_67 : aggOf Try.prog 67 = some false := by kernel_rfl
theorem ag_69 : aggOf Try.prog 69 = some true := by kernel_rfl
theorem ag_70 : aggOf Try.prog 70 = some false := by kernel_rfl
theorem ag_72 : aggOf Try.prog 72 = some true := by kernel_rfl
theorem ag_74 : aggOf Try.prog 74 = some true := by kernel_rfl
theorem ag_86 : aggOf Try.prog 86 = some true := by kernel_rfl
theorem ag_89 : aggOf Try.prog 89 = some true := by kernel_rfl
theorem ag_9 : aggOf Try.prog 9 = some false := by kernel_rfl
theorem ag_97 : aggOf Try.prog 97 = some true := by kernel_rfl
theorem bi_113 : buildInfo Try.prog 113 = some [(0, 1), (1, 1)] := by kernel_rfl
theorem bi_127 : buildInfo Try.prog 127 = some [(0, 1), (1, 3)] := by kernel_rfl
theorem bi_133 : buildInfo Try.prog 133 = some [(0, 1), (1, 1)] := by kernel_rfl
theorem bi_138 : buildInfo Try.prog 138 = some [] := by kernel_rfl
theorem bi_30 : buildInfo Try.prog 30 = some [(0, 1)] := by kernel_rfl
theorem bi_45 : buildInfo Try.prog 45 = some [(0, 1), (1, 1), (2, 1)] := by kernel_rfl
theorem bi_69 : buildInfo Try.prog 69 = some [(0, 1), (1, 1), (2, 1)] := by kernel_rfl
theorem bi_72 : buildInfo Try.prog 72 = some [(0, 1), (1, 1), (2, 3), (5, 1)] := by kernel_rfl
theorem bi_80 : buildInfo Try.prog 80 = some [(0, 1), (1, 1)] := by kernel_rfl
theorem bi_86 : buildInfo Try.prog 86 = some [(0, 1), (1, 1)] := by kernel_rfl
theorem bi_89 : buildInfo Try.prog 89 = some [(0, 1), (1, 1), (2, 1), (3, 1)] := by kernel_rfl
theorem bi_97 : buildInfo Try.prog 97 = some [(0, 1), (1, 1), (2, 1), (3, 1), (4, 1), (5, 1)] := by kernel_rfl
theorem cal_100 : callable Try.prog 100 = true := by kernel_rfl
theorem cal_101 : callable Try.prog 101 = true := by kernel_rfl
theorem cal_102 : callable Try.prog 102 = true := by kernel_rfl
theorem cal_103 : callable Try.prog 103 = true := by kernel_rfl
theorem cal_104 : callable Try.prog 104 = true := by kernel_rfl
theorem cal_105 : callable Try.prog 105 = true := by kernel_rfl
theorem cal_106 : callable Try.prog 106 = true := by kernel_rfl
theorem cal_15 : callable Try.prog 15 = true := by kernel_rfl
theorem cal_16 : callable Try.prog 16 = true := by kernel_rfl
theorem cal_17 : callable Try.prog 17 = true := by kernel_rfl
theorem cal_18 : callable Try.prog 18 = true := by kernel_rfl
theorem cal_19 : callable Try.prog 19 = true := by kernel_rfl
theorem cal_20 : callable Try.prog 20 = true := by kernel_rfl
theorem cal_21 : callable Try.prog 21 = true := by kernel_rfl
theorem cal_22 : callable Try.prog 22 = true := by kernel_rfl
theorem cal_23 : callable Try.prog 23 = true := by kernel_rfl
theorem cal_24 : callable Try.prog 24 = true := by kernel_rfl
theorem cal_25 : callable Try.prog 25 = true := by kernel_rfl
theorem cal_26 : callable Try.prog 26 = true := by kernel_rfl
theorem cal_27 : callable Try.prog 27 = true := by kernel_rfl
theorem cal_28 : callable Try.prog 28 = true := by kernel_rfl
theorem cal_29 : callable Try.prog 29 = true := by kernel_rfl
theorem cal_30 : callable Try.prog 30 = true := by kernel_rfl
theorem cal_31 : callable Try.prog 31 = true := by kernel_rfl
theorem cal_32 : callable Try.prog 32 = true := by kernel_rfl
theorem cal_33 : callable Try.prog 33 = true := by kernel_rfl
theorem cal_34 : callable Try.prog 34 = true := by kernel_rfl
theorem cal_35 : callable Try.prog 35 = true := by kernel_rfl
theorem cal_36 : callable Try.prog 36 = true := by kernel_rfl
theorem cal_37 : callable Try.prog 37 = true := by kernel_rfl
theorem cal_38 : callable Try.prog 38 = true := by kernel_rfl
theorem cal_39 : callable Try.prog 39 = true := by kernel_rfl
theorem cal_40 : callable Try.prog 40 = true := by kernel_rfl
theorem cal_41 : callable Try.prog 41 = true := by kernel_rfl
theorem cal_42 : callable Try.prog 42 = true := by kernel_rfl
theorem cal_43 : callable Try.prog 43 = true := by kernel_rfl
theorem cal_44 : callable Try.prog 44 = true := by kernel_rfl
theorem cal_45 : callable Try.prog 45 = true := by kernel_rfl
theorem cal_46 : callable Try.prog 46 = true := by kernel_rfl
theorem cal_47 : callable Try.prog 47 = true := by kernel_rfl
theorem cal_48 : callable Try.prog 48 = true := by kernel_rfl
theorem cal_49 : callable Try.prog 49 = true := by kernel_rfl
theorem cal_50 : callable Try.prog 50 = true := by kernel_rfl
theorem cal_51 : callable Try.prog 51 = true := by kernel_rfl
theorem cal_52 : callable Try.prog 52 = true := by kernel_rfl
theorem cal_53 : callable Try.prog 53 = true := by kernel_rfl
theorem cal_54 : callable Try.prog 54 = true := by kernel_rfl
theorem cal_55 : callable Try.prog 55 = true := by kernel_rfl
theorem cal_56 : callable Try.prog 56 = true := by kernel_rfl
theorem cal_57 : callable Try.prog 57 = true := by kernel_rfl
theorem cal_58 : callable Try.prog 58 = true := by kernel_rfl
theorem cal_59 : callable Try.prog 59 = true := by kernel_rfl
theorem cal_60 : callable Try.prog 60 = true := by kernel_rfl
theorem cal_61 : callable Try.prog 61 = true := by kernel_rfl
theorem cal_62 : callable Try.prog 62 = true := by kernel_rfl
theorem cal_63 : callable Try.prog 63 = true := by kernel_rfl
theorem cal_64 : callable Try.prog 64 = true := by kernel_rfl
theorem cal_65 : callable Try.prog 65 = true := by kernel_rfl
theorem cal_66 : callable Try.prog 66 = true := by kernel_rfl
theorem cal_67 : callable Try.prog 67 = true := by kernel_rfl
theorem cal_68 : callable Try.prog 68 = true := by kernel_rfl
theorem cal_69 : callable Try.prog 69 = true := by kernel_rfl
theorem cal_70 : callable Try.prog 70 = true := by kernel_rfl
theorem cal_71 : callable Try.prog 71 = true := by kernel_rfl
theorem cal_72 : callable Try.prog 72 = true := by kernel_rfl
theorem cal_73 : callable Try.prog 73 = true := by kernel_rfl
theorem cal_74 : callable Try.prog 74 = true := by kernel_rfl
theorem cal_75 : callable Try.prog 75 = true := by kernel_rfl
theorem cal_76 : callable Try.prog 76 = true := by kernel_rfl
theorem cal_77 : callable Try.prog 77 = true := by kernel_rfl
theorem cal_78 : callable Try.prog 78 = true := by kernel_rfl
theorem cal_79 : callable Try.prog 79 = true := by kernel_rfl
theorem cal_80 : callable Try.prog 80 = true := by kernel_rfl
theorem cal_81 : callable Try.prog 81 = true := by kernel_rfl
theorem cal_82 : callable Try.prog 82 = true := by kernel_rfl
theorem cal_83 : callable Try.prog 83 = true := by kernel_rfl
theorem cal_84 : callable Try.prog 84 = true := by kernel_rfl
theorem cal_85 : callable Try.prog 85 = true := by kernel_rfl
theorem cal_86 : callable Try.prog 86 = true := by kernel_rfl
theorem cal_87 : callable Try.prog 87 = true := by kernel_rfl
theorem cal_88 : callable Try.prog 88 = true := by kernel_rfl
theorem cal_89 : callable Try.prog 89 = true := by kernel_rfl
theorem cal_90 : callable Try.prog 90 = true := by kernel_rfl
theorem cal_91 : callable Try.prog 91 = true := by kernel_rfl
theorem cal_92 : callable Try.prog 92 = true := by kernel_rfl
theorem cal_93 : callable Try.prog 93 = true := by kernel_rfl
theorem cal_94 : callable Try.prog 94 = true := by kernel_rfl
theorem cal_95 : callable Try.prog 95 = true := by kernel_rfl
theorem cal_96 : callable Try.prog 96 = true := by kernel_rfl
theorem cal_97 : callable Try.prog 97 = true := by kernel_rfl
theorem cal_98 : callable Try.prog 98 = true := by kernel_rfl
theorem cal_99 : callable Try.prog 99 = true := by kernel_rfl
theorem eg_127 : Try.prog.eqGuardType Try.prog.depth 127 = false := by kernel_rfl
theorem eg_45 : Try.prog.eqGuardType Try.prog.depth 45 = false := by kernel_rfl
theorem eg_69 : Try.prog.eqGuardType Try.prog.depth 69 = false := by kernel_rfl
theorem eg_86 : Try.prog.eqGuardType Try.prog.depth 86 = false := by kernel_rfl
theorem ek_127 : eqKs Try.prog 9 127 = some [.str, .bool, .int .i64, .int .i64] := by kernel_rfl
theorem ek_45 : eqKs Try.prog 9 45 = some [.int .i64, .str, .int .i64] := by kernel_rfl
theorem ek_69 : eqKs Try.prog 9 69 = some [.bool, .int .i64, .int .i64] := by kernel_rfl
theorem ek_86 : eqKs Try.prog 9 86 = some [.int .i64, .int .i64] := by kernel_rfl
theorem el_127 : elOf Try.prog 127 = some (4, 40) := by kernel_rfl
theorem el_3 : elOf Try.prog 3 = some (1, 8) := by kernel_rfl
theorem el_45 : elOf Try.prog 45 = some (3, 32) := by kernel_rfl
theorem el_5 : elOf Try.prog 5 = some (1, 1) := by kernel_rfl
theorem el_86 : elOf Try.prog 86 = some (2, 16) := by kernel_rfl
theorem el_9 : elOf Try.prog 9 = some (1, 16) := by kernel_rfl
theorem fo_113_0 : fieldOff Try.prog 113 0 = some 0 := by kernel_rfl
theorem fo_113_1 : fieldOff Try.prog 113 1 = some 1 := by kernel_rfl
theorem fo_127_0 : fieldOff Try.prog 127 0 = some 0 := by kernel_rfl
theorem fo_127_1 : fieldOff Try.prog 127 1 = some 1 := by kernel_rfl
theorem fo_133_0 : fieldOff Try.prog 133 0 = some 0 := by kernel_rfl
theorem fo_133_1 : fieldOff Try.prog 133 1 = some 1 := by kernel_rfl
theorem fo_28_0 : fieldOff Try.prog 28 0 = some 0 := by kernel_rfl
theorem fo_30_0 : fieldOff Try.prog 30 0 = some 0 := by kernel_rfl
theorem fo_45_1 : fieldOff Try.prog 45 1 = some 1 := by kernel_rfl
theorem fo_45_2 : fieldOff Try.prog 45 2 = some 2 := by kernel_rfl
theorem fo_69_0 : fieldOff Try.prog 69 0 = some 0 := by kernel_rfl
theorem fo_69_1 : fieldOff Try.prog 69 1 = some 1 := by kernel_rfl
theorem fo_69_2 : fieldOff Try.prog 69 2 = some 2 := by kernel_rfl
theorem fo_72_0 : fieldOff Try.prog 72 0 = some 0 := by kernel_rfl
theorem fo_72_1 : fieldOff Try.prog 72 1 = some 1 := by kernel_rfl
theorem fo_72_2 : fieldOff Try.prog 72 2 = some 2 := by kernel_rfl
theorem fo_72_3 : fieldOff Try.prog 72 3 = some 5 := by kernel_rfl
theorem fo_74_0 : fieldOff Try.prog 74 0 = some 0 := by kernel_rfl
theorem fo_74_1 : fieldOff Try.prog 74 1 = some 1 := by kernel_rfl
theorem fo_74_2 : fieldOff Try.prog 74 2 = some 2 := by kernel_rfl
theorem fo_74_3 : fieldOff Try.prog 74 3 = some 3 := by kernel_rfl
theorem fo_80_0 : fieldOff Try.prog 80 0 = some 0 := by kernel_rfl
theorem fo_80_1 : fieldOff Try.prog 80 1 = some 1 := by kernel_rfl
theorem fo_86_0 : fieldOff Try.prog 86 0 = some 0 := by kernel_rfl
theorem fo_86_1 : fieldOff Try.prog 86 1 = some 1 := by kernel_rfl
theorem fo_89_0 : fieldOff Try.prog 89 0 = some 0 := by kernel_rfl
theorem fo_89_1 : fieldOff Try.prog 89 1 = some 1 := by kernel_rfl
theorem fo_89_2 : fieldOff Try.prog 89 2 = some 2 := by kernel_rfl
theorem fo_89_3 : fieldOff Try.prog 89 3 = some 3 := by kernel_rfl
theorem fo_97_0 : fieldOff Try.prog 97 0 = some 0 := by kernel_rfl
theorem fo_97_1 : fieldOff Try.prog 97 1 = some 1 := by kernel_rfl
theorem fo_97_2 : fieldOff Try.prog 97 2 = some 2 := by kernel_rfl
theorem fo_97_3 : fieldOff Try.prog 97 3 = some 3 := by kernel_rfl
theorem fo_97_4 : fieldOff Try.prog 97 4 = some 4 := by kernel_rfl
theorem fo_97_5 : fieldOff Try.prog 97 5 = some 5 := by kernel_rfl
theorem ii_20 : isIf Try.prog 20 = true := by kernel_rfl
theorem is_2 : (Try.prog.underlying 2).isSome = true := by kernel_rfl
theorem is_3 : (Try.prog.underlying 3).isSome = true := by kernel_rfl
theorem is_37 : (Try.prog.underlying 37).isSome = true := by kernel_rfl
theorem is_5 : (Try.prog.underlying 5).isSome = true := by kernel_rfl
theorem mixed : Try.prog.follows .mixedOrders = true := by kernel_rfl
theorem ni_138 : notIf Try.prog 138 = true := by kernel_rfl
theorem sz_127 : szOf Try.prog 127 = some 4 := by kernel_rfl
theorem sz_138 : szOf Try.prog 138 = some 0 := by kernel_rfl
theorem sz_2 : szOf Try.prog 2 = some 1 := by kernel_rfl
theorem sz_26 : szOf Try.prog 26 = some 1 := by kernel_rfl
theorem sz_3 : szOf Try.prog 3 = some 1 := by kernel_rfl
theorem sz_35 : szOf Try.prog 35 = some 1 := by kernel_rfl
theorem sz_37 : szOf Try.prog 37 = some 1 := by kernel_rfl
theorem sz_4 : szOf Try.prog 4 = some 1 := by kernel_rfl
theorem sz_45 : szOf Try.prog 45 = some 3 := by kernel_rfl
theorem sz_5 : szOf Try.prog 5 = some 1 := by kernel_rfl
theorem sz_67 : szOf Try.prog 67 = some 1 := by kernel_rfl
theorem sz_69 : szOf Try.prog 69 = some 3 := by kernel_rfl
theorem sz_70 : szOf Try.prog 70 = some 1 := by kernel_rfl
theorem sz_72 : szOf Try.prog 72 = some 6 := by kernel_rfl
theorem sz_74 : szOf Try.prog 74 = some 9 := by kernel_rfl
theorem sz_86 : szOf Try.prog 86 = some 2 := by kernel_rfl
theorem sz_89 : szOf Try.prog 89 = some 4 := by kernel_rfl
theorem sz_9 : szOf Try.prog 9 = some 1 := by kernel_rfl
theorem sz_97 : szOf Try.prog 97 = some 6 := by kernel_rfl
theorem u_110 : Try.prog.underlying 110 = some (.int .u64) := by kernel_rfl
theorem u_124 : Try.prog.underlying 124 = some (.slice 72) := by kernel_rfl
theorem u_2 : Try.prog.underlying 2 = some (.int .i64) := by kernel_rfl
theorem u_23 : Try.prog.underlying 23 = some (.pointer 30) := by kernel_rfl
theorem u_26 : Try.prog.underlying 26 = some (.slice 5) := by kernel_rfl
theorem u_3 : Try.prog.underlying 3 = some (.int .i64) := by kernel_rfl
theorem u_31 : Try.prog.underlying 31 = some (.pointer 113) := by kernel_rfl
theorem u_37 : Try.prog.underlying 37 = some (.int .u64) := by kernel_rfl
theorem u_4 : Try.prog.underlying 4 = some .bool := by kernel_rfl
theorem u_40 : Try.prog.underlying 40 = some (.slice 45) := by kernel_rfl
theorem u_5 : Try.prog.underlying 5 = some (.int .u8) := by kernel_rfl
theorem u_51 : Try.prog.underlying 51 = some (.slice 37) := by kernel_rfl
theorem u_52 : Try.prog.underlying 52 = some (.slice 2) := by kernel_rfl
theorem u_53 : Try.prog.underlying 53 = some (.slice 9) := by kernel_rfl
theorem u_54 : Try.prog.underlying 54 = some (.slice 4) := by kernel_rfl
theorem u_59 : Try.prog.underlying 59 = some (.slice 3) := by kernel_rfl
theorem u_64 : Try.prog.underlying 64 = some (.slice 74) := by kernel_rfl
theorem u_67 : Try.prog.underlying 67 = some (.slice 86) := by kernel_rfl
theorem u_70 : Try.prog.underlying 70 = some (.slice 127) := by kernel_rfl
theorem u_9 : Try.prog.underlying 9 = some .string := by kernel_rfl
theorem u_91 : Try.prog.underlying 91 = some (.slice 26) := by kernel_rfl
theorem zd_113 : zeroDs Try.prog 113 = some [.fix [], .val (.bool false)] := by kernel_rfl
theorem zd_127 : zeroDs Try.prog 127 = some [.val (.str []), .val (.bool false), .val (.int .i64 0), .val (.int .i64 0)] := by kernel_rfl
theorem zd_133 : zeroDs Try.prog 133 = some [.val .nil, .val (.bool false)] := by kernel_rfl
theorem zd_138 : zeroDs Try.prog 138 = some [] := by kernel_rfl
theorem zd_2 : zeroDs Try.prog 2 = some [.val (.int .i64 0)] := by kernel_rfl
theorem zd_30 : zeroDs Try.prog 30 = some [.fix []] := by kernel_rfl
theorem zd_37 : zeroDs Try.prog 37 = some [.val (.int .u64 0)] := by kernel_rfl
theorem zd_4 : zeroDs Try.prog 4 = some [.val (.bool false)] := by kernel_rfl
theorem zd_45 : zeroDs Try.prog 45 = some [.val (.int .i64 0), .val (.str []), .val (.int .i64 0)] := by kernel_rfl
theorem zd_5 : zeroDs Try.prog 5 = some [.val (.int .u8 0)] := by kernel_rfl
theorem zd_69 : zeroDs Try.prog 69 = some [.val (.bool false), .val (.int .i64 0), .val (.int .i64 0)] := by kernel_rfl
theorem zd_72 : zeroDs Try.prog 72 = some [.fix [], .val (.bool false), .val (.bool false), .val (.int .i64 0), .val (.int .i64 0), .fix []] := by kernel_rfl
theorem zd_80 : zeroDs Try.prog 80 = some [.fix [], .val (.bool false)] := by kernel_rfl
theorem zd_86 : zeroDs Try.prog 86 = some [.val (.int .i64 0), .val (.int .i64 0)] := by kernel_rfl
theorem zd_89 : zeroDs Try.prog 89 = some [.val (.int .i64 0), .val (.str []), .val (.str []), .val (.int .i64 0)] := by kernel_rfl
theorem zd_9 : zeroDs Try.prog 9 = some [.val (.str [])] := by kernel_rfl
theorem zd_97 : zeroDs Try.prog 97 = some [.val (.int .i64 0), .val (.int .i64 0), .val (.int .i64 0), .fix [], .val (.str []), .val (.int .i64 0)] := by kernel_rfl
theorem zs_127 : (zeroOf Try.prog 127).isSome = true := by kernel_rfl
theorem zs_2 : (zeroOf Try.prog 2).isSome = true := by kernel_rfl
theorem zs_26 : (zeroOf Try.prog 26).isSome = true := by kernel_rfl
theorem zs_3 : (zeroOf Try.prog 3).isSome = true := by kernel_rfl
theorem zs_37 : (zeroOf Try.prog 37).isSome = true := by kernel_rfl
theorem zs_4 : (zeroOf Try.prog 4).isSome = true := by kernel_rfl
theorem zs_45 : (zeroOf Try.prog 45).isSome = true := by kernel_rfl
theorem zs_5 : (zeroOf Try.prog 5).isSome = true := by kernel_rfl
theorem zs_72 : (zeroOf Try.prog 72).isSome = true := by kernel_rfl
theorem zs_86 : (zeroOf Try.prog 86).isSome = true := by kernel_rfl
theorem zs_9 : (zeroOf Try.prog 9).isSome = true := by kernel_rfl
end Go.Proofs.Ytioechdfghglhaa

/- Walks: printed by a program of this session out of its script LexA. -/
namespace Go.Proofs.Ytioechdfghglhaa
set_option linter.unusedVariables false
set_option linter.unusedSimpArgs false
set_option maxRecDepth 4000
set_option maxHeartbeats 4000000
open Go Go.RowKit SL


def Holds (g : FuncId) (p : UInt8 → Bool) : Prop := ∀ (c : UInt8) (σ : List Chunk), FSpec Try.prog g [.val (byteV c)] σ (fun d σ' => d = .val (.bool (p c)) ∧ σ' = σ)

theorem byte_eq {c : UInt8} {n : Nat} : (((c.toNat : Nat) : Int) == ((n : Nat) : Int)) = decide (c.toNat = n) := by
  rw [Bool.eq_iff_iff, beq_iff_eq, decide_eq_true_iff]; omega


theorem letter_ok : Holds 93 letterB := fun c σ => by
  refine spec_of_sw Try.func93 rfl ?_
  refine sw_seq ?_
  refine sl_region ?_
  refine sl_as rfl rfl rfl ?_
  refine sl_nil ?_
  refine sw_seq ?_
  refine sl_region ?_
  refine sl_mv rfl rfl rfl ?_
  refine sl_bin rfl rfl rfl rfl rfl ?_
  refine sl_mv rfl rfl rfl ?_
  refine sl_case_at 5 rfl (fun hg1 => ?_) (fun hg1 => ?_)
  · refine sl_guard_y rfl rfl rfl hg1 ?_
    refine sl_mv rfl rfl rfl ?_
    refine sl_guard_y rfl rfl rfl hg1 ?_
    refine sl_bin rfl rfl rfl rfl rfl ?_
    refine sl_pk_t rfl rfl rfl hg1 rfl ?_
    refine sl_mv rfl rfl rfl ?_
    refine sl_case_at 9 rfl (fun hg2 => ?_) (fun hg2 => ?_)
    · refine sl_guard_n rfl rfl rfl hg2 ?_
      refine sl_guard_n rfl rfl rfl hg2 ?_
      refine sl_guard_n rfl rfl rfl hg2 ?_
      refine sl_guard_u rfl rfl rfl ?_
      refine sl_guard_u rfl rfl rfl ?_
      refine sl_guard_n rfl rfl rfl hg2 ?_
      refine sl_pk_t rfl rfl rfl hg2 rfl ?_
      refine sl_mv rfl rfl rfl ?_
      refine sl_guard_n rfl rfl rfl (rfl) ?_
      refine sl_guard_n rfl rfl rfl (rfl) ?_
      refine sl_pk_t rfl rfl rfl (rfl) rfl ?_
      refine sl_as rfl rfl rfl ?_
      refine sl_nil ?_
      refine sw_ret ⟨rfl, _, _, res_one rfl rfl, ?_, ⟨congrArg (fun b => D.val (.bool b)) (by rw [Bool.eq_iff_iff]; simp only [letterB, decide_eq_true_eq, decide_eq_false_iff_not, beq_iff_eq, bne_iff_ne, beq_eq_false_iff_ne, ne_eq, true_iff, Bool.false_eq_true, false_iff] at *; omega), rfl⟩⟩
      repeat constructor
    refine sl_guard_y rfl rfl rfl hg2 ?_
    refine sl_mv rfl rfl rfl ?_
    refine sl_guard_y rfl rfl rfl hg2 ?_
    refine sl_bin rfl rfl rfl rfl rfl ?_
    refine sl_guard_y rfl rfl rfl hg2 ?_
    refine sl_mv rfl rfl rfl ?_
    refine sl_case_at 12 rfl (fun hg3 => ?_) (fun hg3 => ?_)
    · refine sl_guard_y rfl rfl rfl hg3 ?_
      refine sl_mv rfl rfl rfl ?_
      refine sl_guard_y rfl rfl rfl hg3 ?_
      refine sl_bin rfl rfl rfl rfl rfl ?_
      refine sl_guard_y rfl rfl rfl hg2 ?_
      refine sl_pk_t rfl rfl rfl hg3 rfl ?_
      refine sl_pk_f rfl rfl rfl hg2 rfl ?_
      refine sl_mv rfl rfl rfl ?_
      refine sl_case_at 17 rfl (fun hg4 => ?_) (fun hg4 => ?_)
      · refine sl_guard_n rfl rfl rfl hg4 ?_
        refine sl_guard_n rfl rfl rfl hg4 ?_
        refine sl_pk_t rfl rfl rfl hg4 rfl ?_
        refine sl_as rfl rfl rfl ?_
        refine sl_nil ?_
        refine sw_ret ⟨rfl, _, _, res_one rfl rfl, ?_, ⟨congrArg (fun b => D.val (.bool b)) (by rw [Bool.eq_iff_iff]; simp only [letterB, decide_eq_true_eq, decide_eq_false_iff_not, beq_iff_eq, bne_iff_ne, beq_eq_false_iff_ne, ne_eq, true_iff, Bool.false_eq_true, false_iff] at *; omega), rfl⟩⟩
        repeat constructor
      refine sl_guard_y rfl rfl rfl hg4 ?_
      refine sl_mv rfl rfl rfl ?_
      refine sl_guard_y rfl rfl rfl hg4 ?_
      refine sl_bin rfl rfl rfl rfl rfl ?_
      refine sl_pk_f rfl rfl rfl hg4 rfl ?_
      refine sl_as rfl rfl rfl ?_
      refine sl_nil ?_
      refine sw_ret ⟨rfl, _, _, res_one rfl rfl, ?_, ⟨congrArg (fun b => D.val (.bool b)) (by rw [Bool.eq_iff_iff]; simp only [letterB, decide_eq_true_eq, decide_eq_false_iff_not, beq_iff_eq, bne_iff_ne, beq_eq_false_iff_ne, ne_eq, true_iff, Bool.false_eq_true, false_iff] at *; omega), rfl⟩⟩
      repeat constructor
    refine sl_guard_n rfl rfl rfl hg3 ?_
    refine sl_guard_n rfl rfl rfl hg3 ?_
    refine sl_guard_y rfl rfl rfl hg2 ?_
    refine sl_pk_f rfl rfl rfl hg3 rfl ?_
    refine sl_pk_f rfl rfl rfl hg2 rfl ?_
    refine sl_mv rfl rfl rfl ?_
    refine sl_guard_y rfl rfl rfl (rfl) ?_
    refine sl_mv rfl rfl rfl ?_
    refine sl_guard_y rfl rfl rfl (rfl) ?_
    refine sl_bin rfl rfl rfl rfl rfl ?_
    refine sl_pk_f rfl rfl rfl (rfl) rfl ?_
    refine sl_as rfl rfl rfl ?_
    refine sl_nil ?_
    refine sw_ret ⟨rfl, _, _, res_one rfl rfl, ?_, ⟨congrArg (fun b => D.val (.bool b)) (by rw [Bool.eq_iff_iff]; simp only [letterB, decide_eq_true_eq, decide_eq_false_iff_not, beq_iff_eq, bne_iff_ne, beq_eq_false_iff_ne, ne_eq, true_iff, Bool.false_eq_true, false_iff] at *; omega), rfl⟩⟩
    repeat constructor
  refine sl_guard_n rfl rfl rfl hg1 ?_
  refine sl_guard_n rfl rfl rfl hg1 ?_
  refine sl_pk_f rfl rfl rfl hg1 rfl ?_
  refine sl_mv rfl rfl rfl ?_
  refine sl_guard_y rfl rfl rfl (rfl) ?_
  refine sl_mv rfl rfl rfl ?_
  refine sl_guard_y rfl rfl rfl (rfl) ?_
  refine sl_bin rfl rfl rfl rfl rfl ?_
  refine sl_guard_y rfl rfl rfl (rfl) ?_
  refine sl_mv rfl rfl rfl ?_
  refine sl_case_at 12 rfl (fun hg5 => ?_) (fun hg5 => ?_)
  · refine sl_guard_y rfl rfl rfl hg5 ?_
    refine sl_mv rfl rfl rfl ?_
    refine sl_guard_y rfl rfl rfl hg5 ?_
    refine sl_bin rfl rfl rfl rfl rfl ?_
    refine sl_guard_y rfl rfl rfl (rfl) ?_
    refine sl_pk_t rfl rfl rfl hg5 rfl ?_
    refine sl_pk_f rfl rfl rfl (rfl) rfl ?_
    refine sl_mv rfl rfl rfl ?_
    refine sl_case_at 17 rfl (fun hg6 => ?_) (fun hg6 => ?_)
    · refine sl_guard_n rfl rfl rfl hg6 ?_
      refine sl_guard_n rfl rfl rfl hg6 ?_
      refine sl_pk_t rfl rfl rfl hg6 rfl ?_
      refine sl_as rfl rfl rfl ?_
      refine sl_nil ?_
      refine sw_ret ⟨rfl, _, _, res_one rfl rfl, ?_, ⟨congrArg (fun b => D.val (.bool b)) (by rw [Bool.eq_iff_iff]; simp only [letterB, decide_eq_true_eq, decide_eq_false_iff_not, beq_iff_eq, bne_iff_ne, beq_eq_false_iff_ne, ne_eq, true_iff, Bool.false_eq_true, false_iff] at *; omega), rfl⟩⟩
      repeat constructor
    refine sl_guard_y rfl rfl rfl hg6 ?_
    refine sl_mv rfl rfl rfl ?_
    refine sl_guard_y rfl rfl rfl hg6 ?_
    refine sl_bin rfl rfl rfl rfl rfl ?_
    refine sl_pk_f rfl rfl rfl hg6 rfl ?_
    refine sl_as rfl rfl rfl ?_
    refine sl_nil ?_
    refine sw_ret ⟨rfl, _, _, res_one rfl rfl, ?_, ⟨congrArg (fun b => D.val (.bool b)) (by rw [Bool.eq_iff_iff]; simp only [letterB, decide_eq_true_eq, decide_eq_false_iff_not, beq_iff_eq, bne_iff_ne, beq_eq_false_iff_ne, ne_eq, true_iff, Bool.false_eq_true, false_iff] at *; omega), rfl⟩⟩
    repeat constructor
  refine sl_guard_n rfl rfl rfl hg5 ?_
  refine sl_guard_n rfl rfl rfl hg5 ?_
  refine sl_guard_y rfl rfl rfl (rfl) ?_
  refine sl_pk_f rfl rfl rfl hg5 rfl ?_
  refine sl_pk_f rfl rfl rfl (rfl) rfl ?_
  refine sl_mv rfl rfl rfl ?_
  refine sl_guard_y rfl rfl rfl (rfl) ?_
  refine sl_mv rfl rfl rfl ?_
  refine sl_guard_y rfl rfl rfl (rfl) ?_
  refine sl_bin rfl rfl rfl rfl rfl ?_
  refine sl_pk_f rfl rfl rfl (rfl) rfl ?_
  refine sl_as rfl rfl rfl ?_
  refine sl_nil ?_
  refine sw_ret ⟨rfl, _, _, res_one rfl rfl, ?_, ⟨congrArg (fun b => D.val (.bool b)) (by rw [Bool.eq_iff_iff]; simp only [letterB, decide_eq_true_eq, decide_eq_false_iff_not, beq_iff_eq, bne_iff_ne, beq_eq_false_iff_ne, ne_eq, true_iff, Bool.false_eq_true, false_iff] at *; omega), rfl⟩⟩
  repeat constructor

theorem xletter_ok : Holds 67 letterB := fun c σ => by
  refine spec_of_sw Try.func67 rfl ?_
  refine sw_seq ?_
  refine sl_region ?_
  refine sl_as rfl rfl rfl ?_
  refine sl_nil ?_
  refine sw_seq ?_
  refine sl_region ?_
  refine sl_mv rfl rfl rfl ?_
  refine sl_bin rfl rfl rfl rfl rfl ?_
  refine sl_mv rfl rfl rfl ?_
  refine sl_case_at 5 rfl (fun hg1 => ?_) (fun hg1 => ?_)
  · refine sl_guard_y rfl rfl rfl hg1 ?_
    refine sl_mv rfl rfl rfl ?_
    refine sl_guard_y rfl rfl rfl hg1 ?_
    refine sl_bin rfl rfl rfl rfl rfl ?_
    refine sl_pk_t rfl rfl rfl hg1 rfl ?_
    refine sl_mv rfl rfl rfl ?_
    refine sl_case_at 9 rfl (fun hg2 => ?_) (fun hg2 => ?_)
    · refine sl_guard_n rfl rfl rfl hg2 ?_
      refine sl_guard_n rfl rfl rfl hg2 ?_
      refine sl_guard_n rfl rfl rfl hg2 ?_
      refine sl_guard_u rfl rfl rfl ?_
      refine sl_guard_u rfl rfl rfl ?_
      refine sl_guard_n rfl rfl rfl hg2 ?_
      refine sl_pk_t rfl rfl rfl hg2 rfl ?_
      refine sl_mv rfl rfl rfl ?_
      refine sl_guard_n rfl rfl rfl (rfl) ?_
      refine sl_guard_n rfl rfl rfl (rfl) ?_
      refine sl_pk_t rfl rfl rfl (rfl) rfl ?_
      refine sl_as rfl rfl rfl ?_
      refine sl_nil ?_
      refine sw_ret ⟨rfl, _, _, res_one rfl rfl, ?_, ⟨congrArg (fun b => D.val (.bool b)) (by rw [Bool.eq_iff_iff]; simp only [letterB, decide_eq_true_eq, decide_eq_false_iff_not, beq_iff_eq, bne_iff_ne, beq_eq_false_iff_ne, ne_eq, true_iff, Bool.false_eq_true, false_iff] at *; omega), rfl⟩⟩
      repeat constructor
    refine sl_guard_y rfl rfl rfl hg2 ?_
    refine sl_mv rfl rfl rfl ?_
    refine sl_guard_y rfl rfl rfl hg2 ?_
    refine sl_bin rfl rfl rfl rfl rfl ?_
    refine sl_guard_y rfl rfl rfl hg2 ?_
    refine sl_mv rfl rfl rfl ?_
    refine sl_case_at 12 rfl (fun hg3 => ?_) (fun hg3 => ?_)
    · refine sl_guard_y rfl rfl rfl hg3 ?_
      refine sl_mv rfl rfl rfl ?_
      refine sl_guard_y rfl rfl rfl hg3 ?_
      refine sl_bin rfl rfl rfl rfl rfl ?_
      refine sl_guard_y rfl rfl rfl hg2 ?_
      refine sl_pk_t rfl rfl rfl hg3 rfl ?_
      refine sl_pk_f rfl rfl rfl hg2 rfl ?_
      refine sl_mv rfl rfl rfl ?_
      refine sl_case_at 17 rfl (fun hg4 => ?_) (fun hg4 => ?_)
      · refine sl_guard_n rfl rfl rfl hg4 ?_
        refine sl_guard_n rfl rfl rfl hg4 ?_
        refine sl_pk_t rfl rfl rfl hg4 rfl ?_
        refine sl_as rfl rfl rfl ?_
        refine sl_nil ?_
        refine sw_ret ⟨rfl, _, _, res_one rfl rfl, ?_, ⟨congrArg (fun b => D.val (.bool b)) (by rw [Bool.eq_iff_iff]; simp only [letterB, decide_eq_true_eq, decide_eq_false_iff_not, beq_iff_eq, bne_iff_ne, beq_eq_false_iff_ne, ne_eq, true_iff, Bool.false_eq_true, false_iff] at *; omega), rfl⟩⟩
        repeat constructor
      refine sl_guard_y rfl rfl rfl hg4 ?_
      refine sl_mv rfl rfl rfl ?_
      refine sl_guard_y rfl rfl rfl hg4 ?_
      refine sl_bin rfl rfl rfl rfl rfl ?_
      refine sl_pk_f rfl rfl rfl hg4 rfl ?_
      refine sl_as rfl rfl rfl ?_
      refine sl_nil ?_
      refine sw_ret ⟨rfl, _, _, res_one rfl rfl, ?_, ⟨congrArg (fun b => D.val (.bool b)) (by rw [Bool.eq_iff_iff]; simp only [letterB, decide_eq_true_eq, decide_eq_false_iff_not, beq_iff_eq, bne_iff_ne, beq_eq_false_iff_ne, ne_eq, true_iff, Bool.false_eq_true, false_iff] at *; omega), rfl⟩⟩
      repeat constructor
    refine sl_guard_n rfl rfl rfl hg3 ?_
    refine sl_guard_n rfl rfl rfl hg3 ?_
    refine sl_guard_y rfl rfl rfl hg2 ?_
    refine sl_pk_f rfl rfl rfl hg3 rfl ?_
    refine sl_pk_f rfl rfl rfl hg2 rfl ?_
    refine sl_mv rfl rfl rfl ?_
    refine sl_guard_y rfl rfl rfl (rfl) ?_
    refine sl_mv rfl rfl rfl ?_
    refine sl_guard_y rfl rfl rfl (rfl) ?_
    refine sl_bin rfl rfl rfl rfl rfl ?_
    refine sl_pk_f rfl rfl rfl (rfl) rfl ?_
    refine sl_as rfl rfl rfl ?_
    refine sl_nil ?_
    refine sw_ret ⟨rfl, _, _, res_one rfl rfl, ?_, ⟨congrArg (fun b => D.val (.bool b)) (by rw [Bool.eq_iff_iff]; simp only [letterB, decide_eq_true_eq, decide_eq_false_iff_not, beq_iff_eq, bne_iff_ne, beq_eq_false_iff_ne, ne_eq, true_iff, Bool.false_eq_true, false_iff] at *; omega), rfl⟩⟩
    repeat constructor
  refine sl_guard_n rfl rfl rfl hg1 ?_
  refine sl_guard_n rfl rfl rfl hg1 ?_
  refine sl_pk_f rfl rfl rfl hg1 rfl ?_
  refine sl_mv rfl rfl rfl ?_
  refine sl_guard_y rfl rfl rfl (rfl) ?_
  refine sl_mv rfl rfl rfl ?_
  refine sl_guard_y rfl rfl rfl (rfl) ?_
  refine sl_bin rfl rfl rfl rfl rfl ?_
  refine sl_guard_y rfl rfl rfl (rfl) ?_
  refine sl_mv rfl rfl rfl ?_
  refine sl_case_at 12 rfl (fun hg5 => ?_) (fun hg5 => ?_)
  · refine sl_guard_y rfl rfl rfl hg5 ?_
    refine sl_mv rfl rfl rfl ?_
    refine sl_guard_y rfl rfl rfl hg5 ?_
    refine sl_bin rfl rfl rfl rfl rfl ?_
    refine sl_guard_y rfl rfl rfl (rfl) ?_
    refine sl_pk_t rfl rfl rfl hg5 rfl ?_
    refine sl_pk_f rfl rfl rfl (rfl) rfl ?_
    refine sl_mv rfl rfl rfl ?_
    refine sl_case_at 17 rfl (fun hg6 => ?_) (fun hg6 => ?_)
    · refine sl_guard_n rfl rfl rfl hg6 ?_
      refine sl_guard_n rfl rfl rfl hg6 ?_
      refine sl_pk_t rfl rfl rfl hg6 rfl ?_
      refine sl_as rfl rfl rfl ?_
      refine sl_nil ?_
      refine sw_ret ⟨rfl, _, _, res_one rfl rfl, ?_, ⟨congrArg (fun b => D.val (.bool b)) (by rw [Bool.eq_iff_iff]; simp only [letterB, decide_eq_true_eq, decide_eq_false_iff_not, beq_iff_eq, bne_iff_ne, beq_eq_false_iff_ne, ne_eq, true_iff, Bool.false_eq_true, false_iff] at *; omega), rfl⟩⟩
      repeat constructor
    refine sl_guard_y rfl rfl rfl hg6 ?_
    refine sl_mv rfl rfl rfl ?_
    refine sl_guard_y rfl rfl rfl hg6 ?_
    refine sl_bin rfl rfl rfl rfl rfl ?_
    refine sl_pk_f rfl rfl rfl hg6 rfl ?_
    refine sl_as rfl rfl rfl ?_
    refine sl_nil ?_
    refine sw_ret ⟨rfl, _, _, res_one rfl rfl, ?_, ⟨congrArg (fun b => D.val (.bool b)) (by rw [Bool.eq_iff_iff]; simp only [letterB, decide_eq_true_eq, decide_eq_false_iff_not, beq_iff_eq, bne_iff_ne, beq_eq_false_iff_ne, ne_eq, true_iff, Bool.false_eq_true, false_iff] at *; omega), rfl⟩⟩
    repeat constructor
  refine sl_guard_n rfl rfl rfl hg5 ?_
  refine sl_guard_n rfl rfl rfl hg5 ?_
  refine sl_guard_y rfl rfl rfl (rfl) ?_
  refine sl_pk_f rfl rfl rfl hg5 rfl ?_
  refine sl_pk_f rfl rfl rfl (rfl) rfl ?_
  refine sl_mv rfl rfl rfl ?_
  refine sl_guard_y rfl rfl rfl (rfl) ?_
  refine sl_mv rfl rfl rfl ?_
  refine sl_guard_y rfl rfl rfl (rfl) ?_
  refine sl_bin rfl rfl rfl rfl rfl ?_
  refine sl_pk_f rfl rfl rfl (rfl) rfl ?_
  refine sl_as rfl rfl rfl ?_
  refine sl_nil ?_
  refine sw_ret ⟨rfl, _, _, res_one rfl rfl, ?_, ⟨congrArg (fun b => D.val (.bool b)) (by rw [Bool.eq_iff_iff]; simp only [letterB, decide_eq_true_eq, decide_eq_false_iff_not, beq_iff_eq, bne_iff_ne, beq_eq_false_iff_ne, ne_eq, true_iff, Bool.false_eq_true, false_iff] at *; omega), rfl⟩⟩
  repeat constructor

theorem digit_ok : Holds 95 digitB := fun c σ => by
  refine spec_of_sw Try.func95 rfl ?_
  refine sw_seq ?_
  refine sl_region ?_
  refine sl_as rfl rfl rfl ?_
  refine sl_nil ?_
  refine sw_seq ?_
  refine sl_region ?_
  refine sl_mv rfl rfl rfl ?_
  refine sl_bin rfl rfl rfl rfl rfl ?_
  refine sl_mv rfl rfl rfl ?_
  refine sl_case_at 5 rfl (fun hg1 => ?_) (fun hg1 => ?_)
  · refine sl_guard_y rfl rfl rfl hg1 ?_
    refine sl_mv rfl rfl rfl ?_
    refine sl_guard_y rfl rfl rfl hg1 ?_
    refine sl_bin rfl rfl rfl rfl rfl ?_
    refine sl_pk_t rfl rfl rfl hg1 rfl ?_
    refine sl_as rfl rfl rfl ?_
    refine sl_nil ?_
    refine sw_ret ⟨rfl, _, _, res_one rfl rfl, ?_, ⟨congrArg (fun b => D.val (.bool b)) (by rw [Bool.eq_iff_iff]; simp only [digitB, decide_eq_true_eq, decide_eq_false_iff_not, beq_iff_eq, bne_iff_ne, beq_eq_false_iff_ne, ne_eq, true_iff, Bool.false_eq_true, false_iff] at *; omega), rfl⟩⟩
    repeat constructor
  refine sl_guard_n rfl rfl rfl hg1 ?_
  refine sl_guard_n rfl rfl rfl hg1 ?_
  refine sl_pk_f rfl rfl rfl hg1 rfl ?_
  refine sl_as rfl rfl rfl ?_
  refine sl_nil ?_
  refine sw_ret ⟨rfl, _, _, res_one rfl rfl, ?_, ⟨congrArg (fun b => D.val (.bool b)) (by rw [Bool.eq_iff_iff]; simp only [digitB, decide_eq_true_eq, decide_eq_false_iff_not, beq_iff_eq, bne_iff_ne, beq_eq_false_iff_ne, ne_eq, true_iff, Bool.false_eq_true, false_iff] at *; omega), rfl⟩⟩
  repeat constructor

theorem xdigit_ok : Holds 68 digitB := fun c σ => by
  refine spec_of_sw Try.func68 rfl ?_
  refine sw_seq ?_
  refine sl_region ?_
  refine sl_as rfl rfl rfl ?_
  refine sl_nil ?_
  refine sw_seq ?_
  refine sl_region ?_
  refine sl_mv rfl rfl rfl ?_
  refine sl_bin rfl rfl rfl rfl rfl ?_
  refine sl_mv rfl rfl rfl ?_
  refine sl_case_at 5 rfl (fun hg1 => ?_) (fun hg1 => ?_)
  · refine sl_guard_y rfl rfl rfl hg1 ?_
    refine sl_mv rfl rfl rfl ?_
    refine sl_guard_y rfl rfl rfl hg1 ?_
    refine sl_bin rfl rfl rfl rfl rfl ?_
    refine sl_pk_t rfl rfl rfl hg1 rfl ?_
    refine sl_as rfl rfl rfl ?_
    refine sl_nil ?_
    refine sw_ret ⟨rfl, _, _, res_one rfl rfl, ?_, ⟨congrArg (fun b => D.val (.bool b)) (by rw [Bool.eq_iff_iff]; simp only [digitB, decide_eq_true_eq, decide_eq_false_iff_not, beq_iff_eq, bne_iff_ne, beq_eq_false_iff_ne, ne_eq, true_iff, Bool.false_eq_true, false_iff] at *; omega), rfl⟩⟩
    repeat constructor
  refine sl_guard_n rfl rfl rfl hg1 ?_
  refine sl_guard_n rfl rfl rfl hg1 ?_
  refine sl_pk_f rfl rfl rfl hg1 rfl ?_
  refine sl_as rfl rfl rfl ?_
  refine sl_nil ?_
  refine sw_ret ⟨rfl, _, _, res_one rfl rfl, ?_, ⟨congrArg (fun b => D.val (.bool b)) (by rw [Bool.eq_iff_iff]; simp only [digitB, decide_eq_true_eq, decide_eq_false_iff_not, beq_iff_eq, bne_iff_ne, beq_eq_false_iff_ne, ne_eq, true_iff, Bool.false_eq_true, false_iff] at *; omega), rfl⟩⟩
  repeat constructor

theorem blank_ok : Holds 63 blankB := fun c σ => by
  refine spec_of_sw Try.func63 rfl ?_
  refine sw_seq ?_
  refine sl_region ?_
  refine sl_as rfl rfl rfl ?_
  refine sl_nil ?_
  refine sw_seq ?_
  refine sl_region ?_
  refine sl_mv rfl rfl rfl ?_
  refine sl_bin rfl rfl rfl rfl rfl ?_
  refine sl_mv rfl rfl rfl ?_
  refine sl_case_at 5 rfl (fun hg1 => ?_) (fun hg1 => ?_)
  · refine sl_guard_n rfl rfl rfl hg1 ?_
    refine sl_guard_n rfl rfl rfl hg1 ?_
    refine sl_pk_t rfl rfl rfl hg1 rfl ?_
    refine sl_mv rfl rfl rfl ?_
    refine sl_guard_n rfl rfl rfl (rfl) ?_
    refine sl_guard_n rfl rfl rfl (rfl) ?_
    refine sl_pk_t rfl rfl rfl (rfl) rfl ?_
    refine sl_mv rfl rfl rfl ?_
    refine sl_guard_n rfl rfl rfl (rfl) ?_
    refine sl_guard_n rfl rfl rfl (rfl) ?_
    refine sl_pk_t rfl rfl rfl (rfl) rfl ?_
    refine sl_as rfl rfl rfl ?_
    refine sl_nil ?_
    refine sw_ret ⟨rfl, _, _, res_one rfl rfl, ?_, ⟨congrArg (fun b => D.val (.bool b)) (by rw [Bool.eq_iff_iff]; simp only [blankB, decide_eq_true_eq, decide_eq_false_iff_not, beq_iff_eq, bne_iff_ne, beq_eq_false_iff_ne, ne_eq, true_iff, Bool.false_eq_true, false_iff] at *; omega), rfl⟩⟩
    repeat constructor
  refine sl_guard_y rfl rfl rfl hg1 ?_
  refine sl_mv rfl rfl rfl ?_
  refine sl_guard_y rfl rfl rfl hg1 ?_
  refine sl_bin rfl rfl rfl rfl rfl ?_
  refine sl_pk_f rfl rfl rfl hg1 rfl ?_
  refine sl_mv rfl rfl rfl ?_
  refine sl_case_at 9 rfl (fun hg2 => ?_) (fun hg2 => ?_)
  · refine sl_guard_n rfl rfl rfl hg2 ?_
    refine sl_guard_n rfl rfl rfl hg2 ?_
    refine sl_pk_t rfl rfl rfl hg2 rfl ?_
    refine sl_mv rfl rfl rfl ?_
    refine sl_guard_n rfl rfl rfl (rfl) ?_
    refine sl_guard_n rfl rfl rfl (rfl) ?_
    refine sl_pk_t rfl rfl rfl (rfl) rfl ?_
    refine sl_as rfl rfl rfl ?_
    refine sl_nil ?_
    refine sw_ret ⟨rfl, _, _, res_one rfl rfl, ?_, ⟨congrArg (fun b => D.val (.bool b)) (by rw [Bool.eq_iff_iff]; simp only [blankB, decide_eq_true_eq, decide_eq_false_iff_not, beq_iff_eq, bne_iff_ne, beq_eq_false_iff_ne, ne_eq, true_iff, Bool.false_eq_true, false_iff] at *; omega), rfl⟩⟩
    repeat constructor
  refine sl_guard_y rfl rfl rfl hg2 ?_
  refine sl_mv rfl rfl rfl ?_
  refine sl_guard_y rfl rfl rfl hg2 ?_
  refine sl_bin rfl rfl rfl rfl rfl ?_
  refine sl_pk_f rfl rfl rfl hg2 rfl ?_
  refine sl_mv rfl rfl rfl ?_
  refine sl_case_at 13 rfl (fun hg3 => ?_) (fun hg3 => ?_)
  · refine sl_guard_n rfl rfl rfl hg3 ?_
    refine sl_guard_n rfl rfl rfl hg3 ?_
    refine sl_pk_t rfl rfl rfl hg3 rfl ?_
    refine sl_as rfl rfl rfl ?_
    refine sl_nil ?_
    refine sw_ret ⟨rfl, _, _, res_one rfl rfl, ?_, ⟨congrArg (fun b => D.val (.bool b)) (by rw [Bool.eq_iff_iff]; simp only [blankB, decide_eq_true_eq, decide_eq_false_iff_not, beq_iff_eq, bne_iff_ne, beq_eq_false_iff_ne, ne_eq, true_iff, Bool.false_eq_true, false_iff] at *; omega), rfl⟩⟩
    repeat constructor
  refine sl_guard_y rfl rfl rfl hg3 ?_
  refine sl_mv rfl rfl rfl ?_
  refine sl_guard_y rfl rfl rfl hg3 ?_
  refine sl_bin rfl rfl rfl rfl rfl ?_
  refine sl_pk_f rfl rfl rfl hg3 rfl ?_
  refine sl_as rfl rfl rfl ?_
  refine sl_nil ?_
  refine sw_ret ⟨rfl, _, _, res_one rfl rfl, ?_, ⟨congrArg (fun b => D.val (.bool b)) (by rw [Bool.eq_iff_iff]; simp only [blankB, decide_eq_true_eq, decide_eq_false_iff_not, beq_iff_eq, bne_iff_ne, beq_eq_false_iff_ne, ne_eq, true_iff, Bool.false_eq_true, false_iff] at *; omega), rfl⟩⟩
  repeat constructor

theorem line_ok : Holds 65 lineB := fun c σ => by
  refine spec_of_sw Try.func65 rfl ?_
  refine sw_seq ?_
  refine sl_region ?_
  refine sl_as rfl rfl rfl ?_
  refine sl_nil ?_
  refine sw_seq ?_
  refine sl_region ?_
  refine sl_mv rfl rfl rfl ?_
  refine sl_bin rfl rfl rfl rfl rfl ?_
  refine sl_as rfl rfl rfl ?_
  refine sl_nil ?_
  refine sw_ret ⟨rfl, _, _, res_one rfl rfl, ?_, ⟨congrArg (fun b => D.val (.bool b)) (by rw [Bool.eq_iff_iff]; simp only [lineB, decide_eq_true_eq, decide_eq_false_iff_not, beq_iff_eq, bne_iff_ne, beq_eq_false_iff_ne, ne_eq, true_iff, Bool.false_eq_true, false_iff] at *; omega), rfl⟩⟩
  repeat constructor

theorem word_ok : Holds 94 wordB := fun c σ => by
  refine spec_of_sw Try.func94 rfl ?_
  refine sw_seq ?_
  refine sl_region ?_
  refine sl_as rfl rfl rfl ?_
  refine sl_nil ?_
  refine sw_seq ?_
  refine sl_region ?_
  refine sl_mv rfl rfl rfl ?_
  refine sl_callf rfl rfl cal_93 (letter_ok c σ) ?_ ?_ ?_ (fun _ _ h => h.elim)
  · repeat constructor
  · repeat constructor
  rintro _ _ ⟨rfl, hσ⟩
  have hσ2 := hσ.symm
  subst hσ2
  refine sl_mv rfl rfl rfl ?_
  refine sl_case_at 5 rfl (fun h1 => ?_) (fun h1 => ?_)
  · refine sl_guard_n rfl rfl rfl h1 ?_
    refine sl_guard_n rfl rfl rfl h1 ?_
    refine sl_pk_t rfl rfl rfl h1 rfl ?_
    refine sl_as rfl rfl rfl ?_
    refine sl_nil ?_
    refine sw_ret ⟨rfl, _, _, res_one rfl rfl, ?_, ⟨congrArg (fun b => D.val (.bool b)) (by unfold wordB; rw [show letterB c = true from h1]; rfl), rfl⟩⟩
    repeat constructor
  refine sl_guard_y rfl rfl rfl h1 ?_
  refine sl_mv rfl rfl rfl ?_
  refine sl_guard_y rfl rfl rfl h1 ?_
  refine sl_callf rfl rfl cal_95 (digit_ok c σ) ?_ ?_ ?_ (fun _ _ h => h.elim)
  · repeat constructor
  · repeat constructor
  rintro _ _ ⟨rfl, hσ⟩
  have hσ2 := hσ.symm
  subst hσ2
  refine sl_pk_f rfl rfl rfl h1 rfl ?_
  refine sl_as rfl rfl rfl ?_
  refine sl_nil ?_
  refine sw_ret ⟨rfl, _, _, res_one rfl rfl, ?_, ⟨congrArg (fun b => D.val (.bool b)) (by unfold wordB; rw [show letterB c = false from h1]; rfl), rfl⟩⟩
  repeat constructor

/-- run tells where bytes end that hold. -/
theorem run_ok (g : FuncId) (p : UInt8 → Bool) (hg : callable Try.prog g = true) (hp : Holds g p) (s : List UInt8) (a : Nat) (σ : List Chunk) (ha : a ≤ s.length) (hs : s.length ≤ 100000000) :
    FSpec Try.prog 64 [.val (.str s), .val (.int .i64 (a : Int)), .func g []] σ (fun d σ' => d = .val (.int .i64 ((runTo p s a : Nat) : Int)) ∧ σ' = σ) := by
  refine spec_of_sw Try.func64 rfl ?_
  refine sw_seq ?_
  refine sl_region ?_
  refine sl_as rfl rfl rfl ?_
  refine sl_nil ?_
  refine sw_seq ?_
  refine sw_seq ?_
  refine sl_region ?_
  refine sl_mv rfl rfl rfl ?_
  refine sl_len_str rfl rfl rfl u_9 ?_
  refine sl_mv rfl rfl rfl ?_
  first
    | refine sl_sub_ rfl rfl rfl rfl (by constructor <;> omega) ?_
    | refine sl_bin rfl rfl rfl rfl rfl ?_
  refine sl_mv rfl rfl rfl ?_
  refine sl_nil ?_
  refine sw_block ?_
  refine sw_set 11 (.val (.int .i64 ((s.length - a : Nat) : Int))) (congrArg (fun z => D.val (.int .i64 z)) (by omega)) ?_
  refine sw_loopw (fun nX sX δX σX => ∃ (j : Nat), (s.length - a - j) = nX ∧ sX = ⟨29, (.cons 0 (.val (.str s)) (.cons 1 (.val (.int .i64 (a : Int))) (.cons 2 (.func g []) (.cons 11 (.val (.int .i64 ((s.length - a : Nat) : Int))) (.cons 12 (.val (.int .i64 (j : Int))) .nil)))))⟩ ∧ δX = [] ∧ σX = σ ∧ (j ≤ s.length - a) ∧ (runTo p s a = runTo p s (a + j))) ?_ ?_
  · refine ⟨_, _, _, ?_, ?_, 0, rfl, rfl, rfl, rfl, (Nat.zero_le _), (rfl)⟩
    · exact ⟨rfl, by repeat constructor⟩
    · repeat constructor
  rintro nX sX δX σX ⟨j, rfl, rfl, rfl, rfl, hj, hr⟩
  refine sw_seq ?_
  refine sl_region ?_
  refine sl_bin rfl rfl rfl rfl rfl ?_
  refine sl_nil ?_
  refine sw_seq ?_
  refine sw_cond rfl (fun hc => ?_) (fun hc => ?_)
  · have hj1 : j < s.length - a := by have := of_decide_eq_true hc; omega
    have hlt : a + j < s.length := by omega
    refine sw_skip ?_
    refine sw_seq ?_
    refine sw_block ?_
    refine sw_seq ?_
    refine sl_region ?_
    refine sl_mv rfl rfl rfl ?_
    refine sl_as rfl rfl rfl ?_
    refine sl_nil ?_
    refine sw_seq ?_
    refine sl_region ?_
    refine sl_mv rfl rfl rfl ?_
    refine sl_mv rfl rfl rfl ?_
    refine sl_mv rfl rfl rfl ?_
    refine sl_mv rfl rfl rfl ?_
    first
      | refine sl_inc rfl rfl rfl rfl (by omega) ?_
      | refine sl_add rfl rfl rfl rfl (by constructor <;> omega) ?_
      | refine sl_bin rfl rfl rfl rfl rfl ?_
    refine sl_set 19 (.val (.int .i64 ((a + j : Nat) : Int))) (congrArg (fun z => D.val (.int .i64 z)) (by omega)) ?_
    refine sl_index_str' rfl rfl rfl rfl u_9 (by omega) (List.getElem?_eq_getElem hlt) ?_
    refine sl_callv rfl rfl rfl hg ((hp s[a + j] σX)) ?_ ?_ ?_ (fun _ _ h => h.elim)
    · repeat constructor
    · repeat constructor
    rintro _ _ ⟨rfl, hσ⟩
    have hσ2 := hσ.symm
    subst hσ2
    refine sl_not rfl rfl rfl ?_
    refine sl_nil ?_
    refine sw_cond rfl (fun hn => ?_) (fun hn => ?_)
    · have hn1 : p s[a + j] = false := by simpa using hn
      refine sw_seq ?_
      refine sl_region ?_
      refine sl_mv rfl rfl rfl ?_
      refine sl_mv rfl rfl rfl ?_
      first
        | refine sl_inc rfl rfl rfl rfl (by omega) ?_
        | refine sl_add rfl rfl rfl rfl (by constructor <;> omega) ?_
        | refine sl_bin rfl rfl rfl rfl rfl ?_
      refine sl_as rfl rfl rfl ?_
      refine sl_nil ?_
      refine sw_ret ⟨rfl, _, _, res_one rfl rfl, ?_, ⟨congrArg (fun z => D.val (.int .i64 z)) (by rw [hr, runTo_stop hlt hn1]; omega), rfl⟩⟩
      repeat constructor
    have hn1 : p s[a + j] = true := by simpa using hn
    refine sw_skip ?_
    refine sl_region ?_
    first
      | refine sl_inc rfl rfl rfl rfl (by omega) ?_
      | refine sl_add rfl rfl rfl rfl (by constructor <;> omega) ?_
      | refine sl_bin rfl rfl rfl rfl rfl ?_
    refine sl_mv rfl rfl rfl ?_
    refine sl_nil ?_
    refine ⟨_, by omega, _, _, ?_, ?_, j + 1, rfl, rfl, rfl, rfl, (by omega), (by rw [hr, runTo_go hlt hn1, Nat.add_assoc])⟩
    · exact ⟨rfl, by repeat constructor⟩
    · repeat constructor
  have hj1 : a + j = s.length := by have := of_decide_eq_false hc; omega
  refine sw_exit ?_
  refine sw_seq ?_
  refine sl_region ?_
  refine sl_mv rfl rfl rfl ?_
  refine sl_len_str rfl rfl rfl u_9 ?_
  refine sl_as rfl rfl rfl ?_
  refine sl_nil ?_
  refine sw_ret ⟨rfl, _, _, res_one rfl rfl, ?_, ⟨congrArg (fun z => D.val (.int .i64 z)) (by rw [hr, runTo_end (by omega)]; omega), rfl⟩⟩
  repeat constructor

end Go.Proofs.Ytioechdfghglhaa

/- Walks: printed by a program of this session out of its script LexB. -/
namespace Go.Proofs.Ytioechdfghglhaa
set_option linter.unusedVariables false
set_option linter.unusedSimpArgs false
set_option maxRecDepth 4000
set_option maxHeartbeats 4000000
open Go Go.RowKit SL


theorem hasPre_ok (l m : List UInt8) (σ : List Chunk) : FSpec Try.prog 105 [.val (.str l), .val (.str m)] σ (fun d σ' => d = .val (.bool (prefixB l m)) ∧ σ' = σ) := by
  refine spec_of_sw Try.func105 rfl ?_
  refine sw_seq ?_
  refine sl_region ?_
  refine sl_as rfl rfl rfl ?_
  refine sl_nil ?_
  refine sw_seq ?_
  refine sl_region ?_
  refine sl_mv rfl rfl rfl ?_
  refine sl_len_str rfl rfl rfl u_9 ?_
  refine sl_mv rfl rfl rfl ?_
  refine sl_len_str rfl rfl rfl u_9 ?_
  refine sl_bin rfl rfl rfl rfl rfl ?_
  refine sl_mv rfl rfl rfl ?_
  refine sl_case_at 10 rfl (fun h => ?_) (fun h => ?_)
  · refine sl_guard_y rfl rfl rfl h ?_
    refine sl_mv rfl rfl rfl ?_
    refine sl_guard_y rfl rfl rfl h ?_
    refine sl_mv rfl rfl rfl ?_
    refine sl_guard_y rfl rfl rfl h ?_
    refine sl_len_str rfl rfl rfl u_9 ?_
    refine sl_guard_y rfl rfl rfl h ?_
    refine sl_slice_str 0 m.length rfl rfl rfl u_9 rfl ⟨_, rfl⟩ (Nat.zero_le _) (by have := of_decide_eq_true h; omega) ?_
    refine sl_guard_y rfl rfl rfl h ?_
    refine sl_mv rfl rfl rfl ?_
    refine sl_guard_y rfl rfl rfl h ?_
    refine sl_str rfl rfl rfl rfl rfl ?_
    refine sl_pk_t rfl rfl rfl h rfl ?_
    refine sl_as rfl rfl rfl ?_
    refine sl_nil ?_
    refine sw_ret ⟨rfl, _, _, res_one rfl rfl, ?_, ⟨congrArg (fun b => D.val (.bool b)) (by unfold prefixB; rw [List.drop_zero, Nat.sub_zero]), rfl⟩⟩
    repeat constructor
  refine sl_guard_n rfl rfl rfl h ?_
  refine sl_guard_n rfl rfl rfl h ?_
  refine sl_guard_n rfl rfl rfl h ?_
  refine sl_guard_n rfl rfl rfl h ?_
  refine sl_guard_n rfl rfl rfl h ?_
  refine sl_guard_n rfl rfl rfl h ?_
  refine sl_pk_f rfl rfl rfl h rfl ?_
  refine sl_as rfl rfl rfl ?_
  refine sl_nil ?_
  refine sw_ret ⟨rfl, _, _, res_one rfl rfl, ?_, ⟨congrArg (fun b => D.val (.bool b)) (prefix_short (by have := of_decide_eq_false h; omega)), rfl⟩⟩
  repeat constructor

theorem hasPrefix_ok (l m : List UInt8) (σ : List Chunk) : FSpec Try.prog 103 [.val (.str l), .val (.str m)] σ (fun d σ' => d = .val (.bool (prefixB l m)) ∧ σ' = σ) := by
  refine spec_of_sw Try.func103 rfl ?_
  refine sw_seq ?_
  refine sl_region ?_
  refine sl_as rfl rfl rfl ?_
  refine sl_nil ?_
  refine sw_seq ?_
  refine sl_region ?_
  refine sl_mv rfl rfl rfl ?_
  refine sl_mv rfl rfl rfl ?_
  refine sl_callf rfl rfl cal_105 (hasPre_ok l m σ) ?_ ?_ ?_ (fun _ _ h => h.elim)
  · repeat constructor
  · repeat constructor
  rintro _ _ ⟨rfl, hσ⟩
  have hσ2 := hσ.symm
  subst hσ2
  refine sl_as rfl rfl rfl ?_
  refine sl_nil ?_
  refine sw_ret ⟨rfl, _, _, res_one rfl rfl, ?_, ⟨rfl, rfl⟩⟩
  repeat constructor

theorem indexByte1_ok (l : List UInt8) (c : UInt8) (σ : List Chunk) : FSpec Try.prog 106 [.val (.str l), .val (byteV c)] σ (fun d σ' => d = .val (.int .i64 (Lib.indexByte l c)) ∧ σ' = σ) := by
  refine spec_of_sw Try.func106 rfl ?_
  refine sw_seq ?_
  refine sl_region ?_
  refine sl_as rfl rfl rfl ?_
  refine sl_nil ?_
  refine sw_seq ?_
  refine sl_region ?_
  refine sl_mv rfl rfl rfl ?_
  refine sl_mv rfl rfl rfl ?_
  refine sl_index_byte rfl rfl rfl rfl Try.func107 (by kernel_rfl) (by kernel_rfl) (by kernel_rfl) (by kernel_rfl) ?_
  refine sl_as rfl rfl rfl ?_
  refine sl_nil ?_
  refine sw_ret ⟨rfl, _, _, res_one rfl rfl, ?_, ⟨rfl, rfl⟩⟩
  repeat constructor

theorem indexByte_ok (l : List UInt8) (c : UInt8) (σ : List Chunk) : FSpec Try.prog 104 [.val (.str l), .val (byteV c)] σ (fun d σ' => d = .val (.int .i64 (Lib.indexByte l c)) ∧ σ' = σ) := by
  refine spec_of_sw Try.func104 rfl ?_
  refine sw_seq ?_
  refine sl_region ?_
  refine sl_as rfl rfl rfl ?_
  refine sl_nil ?_
  refine sw_seq ?_
  refine sl_region ?_
  refine sl_mv rfl rfl rfl ?_
  refine sl_mv rfl rfl rfl ?_
  refine sl_callf rfl rfl cal_106 (indexByte1_ok l c σ) ?_ ?_ ?_ (fun _ _ h => h.elim)
  · repeat constructor
  · repeat constructor
  rintro _ _ ⟨rfl, hσ⟩
  have hσ2 := hσ.symm
  subst hσ2
  refine sl_as rfl rfl rfl ?_
  refine sl_nil ?_
  refine sw_ret ⟨rfl, _, _, res_one rfl rfl, ?_, ⟨rfl, rfl⟩⟩
  repeat constructor

/-- sign tells the longest sign that stands at a text's beginning. -/
theorem sign_ok (l : List UInt8) (σ : List Chunk) (hl : 0 < l.length) : FSpec Try.prog 97 [.val (.str l)] σ (fun d σ' => d = .val (.str (signOf l)) ∧ σ' = σ) := by
  refine spec_of_sw Try.func97 rfl ?_
  refine sw_seq ?_
  refine sl_region ?_
  refine sl_as rfl rfl rfl ?_
  refine sl_nil ?_
  refine sw_seq ?_
  refine sw_seq ?_
  refine sl_region ?_
  refine sl_bs1 rfl rfl (.cons rfl (.cons rfl (.cons rfl (.cons rfl (.cons rfl (.cons rfl .nil)))))) u_53 sz_9 zs_9 (by decide) rfl rfl rfl rfl ?_
  refine sl_set 5 (.fix (sixL.map strV)) (rfl) ?_
  first
    | refine sl_len rfl rfl rfl ⟨_, u_53⟩ ?_
    | refine sl_len_sl rfl rfl rfl ⟨_, u_53⟩ ?_
    | refine sl_len_w _ rfl rfl rfl ⟨_, u_53⟩ ?_
  refine sl_mv rfl rfl rfl ?_
  refine sl_nil ?_
  refine sw_block ?_
  refine sw_loopw (fun nX sX δX σX => ∃ (j : Nat), (6 - j) = nX ∧ sX = ⟨22, (.cons 0 (.val (.str l)) (.cons 5 (.val (.list (sixL.map strV))) (.cons 6 (.val (.int .i64 6)) (.cons 7 (.val (.int .i64 (j : Int))) .nil))))⟩ ∧ δX = [] ∧ σX = σ ∧ (j ≤ 6) ∧ (∀ i (hi : i < sixL.length), i < j → prefixB l sixL[i] = false)) ?_ ?_
  · refine ⟨_, _, _, ?_, ?_, 0, rfl, rfl, rfl, rfl, (Nat.zero_le _), (fun i hi h => absurd h (Nat.not_lt_zero i))⟩
    · exact ⟨rfl, by repeat constructor⟩
    · repeat constructor
  rintro nX sX δX σX ⟨j, rfl, rfl, rfl, rfl, hj, hall⟩
  refine sw_seq ?_
  refine sl_region ?_
  refine sl_bin rfl rfl rfl rfl rfl ?_
  refine sl_nil ?_
  refine sw_seq ?_
  refine sw_cond rfl (fun hc => ?_) (fun hc => ?_)
  · have hj1 : j < sixL.length := by have := of_decide_eq_true hc; show j < 6; omega
    have hj6 : j < 6 := hj1
    refine sw_skip ?_
    refine sw_seq ?_
    refine sw_block ?_
    refine sw_seq ?_
    refine sl_region ?_
    refine sl_indexAddr' rfl rfl rfl rfl u_53 sz_9 (by omega) (idx_map hj1) rfl ?_
    first
      | refine sl_load_rp1 rfl rfl rfl ag_9 rfl ?_
      | refine sl_load_blk1 rfl rfl rfl ag_9 (by repeat constructor) rfl ?_
    refine sl_as rfl rfl rfl ?_
    refine sl_nil ?_
    refine sw_seq ?_
    refine sl_region ?_
    refine sl_mv rfl rfl rfl ?_
    refine sl_mv rfl rfl rfl ?_
    refine sl_callf rfl rfl cal_103 (hasPrefix_ok l sixL[j] σX) ?_ ?_ ?_ (fun _ _ h => h.elim)
    · repeat constructor
    · repeat constructor
    rintro _ _ ⟨rfl, hσ⟩
    have hσ2 := hσ.symm
    subst hσ2
    refine sl_nil ?_
    refine sw_cond rfl (fun hp => ?_) (fun hp => ?_)
    · refine sw_seq ?_
      refine sl_region ?_
      refine sl_mv rfl rfl rfl ?_
      refine sl_as rfl rfl rfl ?_
      refine sl_nil ?_
      refine sw_ret ⟨rfl, _, _, res_one rfl rfl, ?_, ⟨congrArg (fun l => D.val (.str l)) (sign_found hj1 hp).symm, rfl⟩⟩
      repeat constructor
    refine sw_skip ?_
    refine sl_region ?_
    first
      | refine sl_inc rfl rfl rfl rfl (by omega) ?_
      | refine sl_add rfl rfl rfl rfl (by constructor <;> omega) ?_
      | refine sl_bin rfl rfl rfl rfl rfl ?_
    refine sl_mv rfl rfl rfl ?_
    refine sl_nil ?_
    refine ⟨_, by omega, _, _, ?_, ?_, j + 1, rfl, rfl, rfl, rfl, (by omega), (six_next hall hj1 hp)⟩
    · exact ⟨rfl, by repeat constructor⟩
    · repeat constructor
  have hj1 : j = 6 := by have := of_decide_eq_false hc; omega
  have ht : twoB (l.take 2) = false := sign_none fun i hi => hall i hi (by have : i < 6 := hi; omega)
  have hhd : l.headD 0 = l[0] := by cases l with | nil => simp at hl | cons x l => rfl
  refine sw_exit ?_
  refine sw_seq ?_
  refine sw_seq ?_
  refine sl_region ?_
  refine sl_mv rfl rfl rfl ?_
  refine sl_index_str' rfl rfl rfl rfl u_9 (by decide) (List.getElem?_eq_getElem hl) ?_
  refine sl_callf rfl rfl cal_104 (indexByte_ok signs1 l[0] σX) ?_ ?_ ?_ (fun _ _ h => h.elim)
  · repeat constructor
  · repeat constructor
  rintro _ _ ⟨rfl, hσ⟩
  have hσ2 := hσ.symm
  subst hσ2
  refine sl_bin rfl rfl rfl rfl rfl ?_
  refine sl_set 19 (.val (.bool (signs1.contains (l.headD 0)))) (by rw [hhd]; exact congrArg (fun b => D.val (.bool b)) (index_byte_ge signs1 l[0])) ?_
  refine sl_nil ?_
  refine sw_cond rfl (fun hs => ?_) (fun hs => ?_)
  · refine sw_seq ?_
    refine sl_region ?_
    refine sl_mv rfl rfl rfl ?_
    refine sl_slice_str 0 1 rfl rfl rfl u_9 rfl ⟨_, rfl⟩ (by decide) hl ?_
    refine sl_as rfl rfl rfl ?_
    refine sl_nil ?_
    refine sw_ret ⟨rfl, _, _, res_one rfl rfl, ?_, ⟨congrArg (fun l => D.val (.str l)) (sign_one ht hs).symm, rfl⟩⟩
    repeat constructor
  refine sw_skip ?_
  refine sw_seq ?_
  refine sl_region ?_
  refine sl_as rfl rfl rfl ?_
  refine sl_nil ?_
  refine sw_ret ⟨rfl, _, _, res_one rfl rfl, ?_, ⟨congrArg (fun l => D.val (.str l)) (sign_no ht hs).symm, rfl⟩⟩
  repeat constructor

/-- number tells what is wrong with digits. -/
theorem number_ok (l : List UInt8) (σ : List Chunk) (hd : allDigits l) (hl : l.length ≤ 100000000) : FSpec Try.prog 96 [.val (.str l)] σ (fun d σ' => d = .val (.int .i64 (numErr l)) ∧ σ' = σ) := by
  refine spec_of_sw Try.func96 rfl ?_
  refine sw_seq ?_
  refine sl_region ?_
  refine sl_as rfl rfl rfl ?_
  refine sl_nil ?_
  refine sw_seq ?_
  refine sl_region ?_
  refine sl_as rfl rfl rfl ?_
  refine sl_nil ?_
  refine sw_seq ?_
  refine sw_seq ?_
  refine sl_region ?_
  refine sl_mv rfl rfl rfl ?_
  refine sl_len_str rfl rfl rfl u_9 ?_
  refine sl_mv rfl rfl rfl ?_
  refine sl_nil ?_
  refine sw_block ?_
  refine sw_loopw (fun nX sX δX σX => ∃ (j : Nat), (l.length - j) = nX ∧ sX = ⟨34, (.cons 0 (.val (.str l)) (.cons 3 (.val (u64V (decVal 0 (l.take j)))) (.cons 7 (.val (.int .i64 (l.length : Int))) (.cons 8 (.val (.int .i64 (j : Int))) .nil))))⟩ ∧ δX = [] ∧ σX = σ ∧ (j ≤ l.length) ∧ (decVal 0 (l.take j) ≤ 9223372036854775807)) ?_ ?_
  · refine ⟨_, _, _, ?_, ?_, 0, rfl, rfl, rfl, rfl, (Nat.zero_le _), (Nat.zero_le _)⟩
    · exact ⟨rfl, by repeat constructor⟩
    · repeat constructor
  rintro nX sX δX σX ⟨j, rfl, rfl, rfl, rfl, hj, hv⟩
  refine sw_seq ?_
  refine sl_region ?_
  refine sl_bin rfl rfl rfl rfl rfl ?_
  refine sl_nil ?_
  refine sw_seq ?_
  refine sw_cond rfl (fun hc => ?_) (fun hc => ?_)
  · have hj1 : j < l.length := by have := of_decide_eq_true hc; omega
    have hr := digit_range (hd l[j] (List.getElem_mem hj1))
    obtain ⟨d, hdd⟩ : ∃ d : Nat, d = l[j].toNat - 48 := ⟨_, rfl⟩
    have hd9 : d ≤ 9 := by omega
    obtain ⟨v, hvv⟩ : ∃ v : Nat, v = decVal 0 (l.take j) := ⟨_, rfl⟩
    have hnext := decVal_take hj1
    rw [← hvv, ← hdd] at hnext
    rw [← hvv] at hv ⊢
    refine sw_skip ?_
    refine sw_seq ?_
    refine sw_block ?_
    refine sw_seq ?_
    refine sl_region ?_
    refine sl_mv rfl rfl rfl ?_
    refine sl_as rfl rfl rfl ?_
    refine sl_nil ?_
    refine sw_seq ?_
    refine sl_region ?_
    refine sl_mv rfl rfl rfl ?_
    refine sl_mv rfl rfl rfl ?_
    refine sl_index_str' rfl rfl rfl rfl u_9 (by omega) (List.getElem?_eq_getElem hj1) ?_
    refine sl_bin rfl rfl rfl rfl rfl ?_
    refine sl_set 14 (.val (.int .u8 (d : Int))) (congrArg (fun z => D.val (.int .u8 z)) (by rw [wrap_u8 (by omega) (by omega)]; omega)) ?_
    refine sl_conv_int rfl rfl rfl is_5 u_37 ?_
    refine sl_set 15 (.val (.int .u64 (d : Int))) (congrArg (fun z => D.val (.int .u64 z)) (wrapped_u64 d (by omega))) ?_
    refine sl_as rfl rfl rfl ?_
    refine sl_nil ?_
    refine sw_seq ?_
    refine sw_seq ?_
    refine sl_region ?_
    refine sl_mv rfl rfl rfl ?_
    refine sl_mv rfl rfl rfl ?_
    refine sl_bin rfl rfl rfl rfl rfl ?_
    refine sl_set 18 (.val (.int .u64 ((9223372036854775807 - d : Nat) : Int))) (congrArg (fun z => D.val (.int .u64 z)) (by rw [wrap_u64 (by omega) (by omega)]; omega)) ?_
    refine sl_div rfl rfl rfl rfl (by decide) ?_
    refine sl_set 19 (.val (.int .u64 (((9223372036854775807 - d) / 10 : Nat) : Int))) (congrArg (fun z => D.val (.int .u64 z)) (by rw [show ((9223372036854775807 - d : Nat) : Int).tdiv 10 = (((9223372036854775807 - d) / 10 : Nat) : Int) from (Int.ofNat_tdiv _ 10).symm, wrapped_u64 _ (by omega)])) ?_
    refine sl_bin rfl rfl rfl rfl rfl ?_
    refine sl_nil ?_
    refine sw_cond rfl (fun hg => ?_) (fun hg => ?_)
    · have hg1 : 9223372036854775807 < decVal 0 (l.take (j + 1)) := by have := of_decide_eq_true hg; rw [hnext]; omega
      refine sw_seq ?_
      refine sl_region ?_
      refine sl_as rfl rfl rfl ?_
      refine sl_nil ?_
      refine sw_ret ⟨rfl, _, _, res_one rfl rfl, ?_, ⟨by rw [numErr_long (i := j + 1) (by rw [maxI64_eq]; exact hg1)]; rfl, rfl⟩⟩
      repeat constructor
    have hg1 : 10 * v + d ≤ 9223372036854775807 := by have := of_decide_eq_false hg; omega
    refine sw_skip ?_
    refine sl_region ?_
    refine sl_mv rfl rfl rfl ?_
    refine sl_bin rfl rfl rfl rfl rfl ?_
    refine sl_set 22 (.val (.int .u64 ((10 * v : Nat) : Int))) (congrArg (fun z => D.val (.int .u64 z)) (by rw [wrap_u64 (by omega) (by omega)]; omega)) ?_
    refine sl_mv rfl rfl rfl ?_
    refine sl_bin rfl rfl rfl rfl rfl ?_
    refine sl_set 24 (.val (u64V (decVal 0 (l.take (j + 1))))) (by rw [hnext]; exact congrArg (fun z => D.val (.int .u64 z)) (by rw [wrap_u64 (by omega) (by omega)]; omega)) ?_
    refine sl_as rfl rfl rfl ?_
    refine sl_nil ?_
    refine sl_region ?_
    first
      | refine sl_inc rfl rfl rfl rfl (by omega) ?_
      | refine sl_add rfl rfl rfl rfl (by constructor <;> omega) ?_
      | refine sl_bin rfl rfl rfl rfl rfl ?_
    refine sl_mv rfl rfl rfl ?_
    refine sl_nil ?_
    refine ⟨_, by omega, _, _, ?_, ?_, j + 1, rfl, rfl, rfl, rfl, (by omega), (by rw [hnext]; exact hg1)⟩
    · exact ⟨rfl, by repeat constructor⟩
    · repeat constructor
  have hj1 : j = l.length := by have := of_decide_eq_false hc; omega
  rw [hj1, List.take_length] at hv
  refine sw_exit ?_
  refine sw_seq ?_
  refine sw_seq ?_
  refine sl_region ?_
  refine sl_mv rfl rfl rfl ?_
  refine sl_len_str rfl rfl rfl u_9 ?_
  refine sl_bin rfl rfl rfl rfl rfl ?_
  refine sl_mv rfl rfl rfl ?_
  refine sl_case_at 29 rfl (fun h1 => ?_) (fun h1 => ?_)
  · have hl1 : 1 < l.length := by have := of_decide_eq_true h1; omega
    have hhd : l.headD 0 = l[0] := by cases l with | nil => simp at hl1 | cons x l => rfl
    refine sl_guard_y rfl rfl rfl h1 ?_
    refine sl_mv rfl rfl rfl ?_
    refine sl_guard_y rfl rfl rfl h1 ?_
    refine sl_index_str' rfl rfl rfl rfl u_9 (by decide) (List.getElem?_eq_getElem (by omega)) ?_
    refine sl_guard_y rfl rfl rfl h1 ?_
    refine sl_bin rfl rfl rfl rfl rfl ?_
    refine sl_pk_t rfl rfl rfl h1 rfl ?_
    refine sl_nil ?_
    refine sw_cond rfl (fun h0 => ?_) (fun h0 => ?_)
    · refine sw_seq ?_
      refine sl_region ?_
      refine sl_as rfl rfl rfl ?_
      refine sl_nil ?_
      refine sw_ret ⟨rfl, _, _, res_one rfl rfl, ?_, ⟨by rw [numErr_zero (by rw [maxI64_eq]; omega) ⟨hl1, by rw [hhd]; exact byte_is h0⟩]; rfl, rfl⟩⟩
      repeat constructor
    refine sw_skip ?_
    refine sw_seq ?_
    refine sl_region ?_
    refine sl_as rfl rfl rfl ?_
    refine sl_nil ?_
    refine sw_ret ⟨rfl, _, _, res_one rfl rfl, ?_, ⟨by rw [numErr_ok (by rw [maxI64_eq]; omega) (fun h => by rw [hhd] at h; exact byte_isnt h0 h.2)]; rfl, rfl⟩⟩
    repeat constructor
  refine sl_guard_n rfl rfl rfl h1 ?_
  refine sl_guard_n rfl rfl rfl h1 ?_
  refine sl_guard_n rfl rfl rfl h1 ?_
  refine sl_pk_f rfl rfl rfl h1 rfl ?_
  refine sl_nil ?_
  refine sw_false rfl (rfl) ?_
  refine sw_skip ?_
  refine sw_seq ?_
  refine sl_region ?_
  refine sl_as rfl rfl rfl ?_
  refine sl_nil ?_
  refine sw_ret ⟨rfl, _, _, res_one rfl rfl, ?_, ⟨by rw [numErr_ok (by rw [maxI64_eq]; omega) (fun h => by have := of_decide_eq_false h1; omega)]; rfl, rfl⟩⟩
  repeat constructor

end Go.Proofs.Ytioechdfghglhaa

/- Walks: printed by a program of this session out of its script LexC. -/
namespace Go.Proofs.Ytioechdfghglhaa
set_option linter.unusedVariables false
set_option linter.unusedSimpArgs false
set_option maxRecDepth 4000
set_option maxHeartbeats 4000000
open Go Go.RowKit SL


abbrev zeroTok : List D := [.val (.int .i64 0), .val (.str []), .val (.int .i64 0)]

/-- token tells the token that stands at a place. -/
theorem token_ok (s : List UInt8) (a : Nat) (σ : List Chunk) (ha : a < s.length) (hs : s.length ≤ 100000000) :
    FSpec Try.prog 66 [.val (.str s), .val (.int .i64 (a : Int))] σ (fun d σ' => d = .tup [.val (tokV (tokStep s a).1), .val (.int .i64 (tokStep s a).2)] ∧ σ' = σ) := by
  refine spec_of_sw Try.func66 rfl ?_
  refine sw_seq ?_
  refine sl_region ?_
  refine sl_alloc rfl rfl zd_45 (fun b4 => ?_)
  refine sl_as rfl rfl rfl ?_
  refine sl_nil ?_
  refine sw_seq ?_
  refine sl_region ?_
  refine sl_mv rfl rfl rfl ?_
  refine sl_mv rfl rfl rfl ?_
  refine sl_index_str' rfl rfl rfl rfl u_9 (by omega) (List.getElem?_eq_getElem ha) ?_
  refine sl_as rfl rfl rfl ?_
  refine sl_nil ?_
  refine sw_seq ?_
  refine sw_block ?_
  refine sw_seq ?_
  refine sl_region ?_
  refine sl_mv rfl rfl rfl ?_
  refine sl_callf rfl rfl cal_93 (letter_ok s[a] (.blk b4 zeroTok :: σ)) ?_ ?_ ?_ (fun _ _ h => h.elim)
  · repeat constructor
  · repeat constructor
  rintro _ _ ⟨rfl, rfl⟩
  refine sl_as rfl rfl rfl ?_
  refine sl_nil ?_
  refine sw_cond rfl (fun hl => ?_) (fun hl => ?_)
  · have hle := runTo_le (p := wordB) (Nat.le_of_lt ha)
    have hge := runTo_ge wordB s a
    refine sw_seq ?_
    refine sl_region ?_
    refine sl_mv rfl rfl rfl ?_
    refine sl_mv rfl rfl rfl ?_
    refine sl_callf rfl rfl cal_64 (run_ok 94 wordB cal_94 word_ok s a (.blk b4 zeroTok :: σ) (Nat.le_of_lt ha) hs) ?_ ?_ ?_ (fun _ _ h => h.elim)
    · repeat constructor
    · repeat constructor
    rintro _ _ ⟨rfl, rfl⟩
    refine sl_as rfl rfl rfl ?_
    refine sl_nil ?_
    refine sw_seq ?_
    refine sw_seq ?_
    refine sl_region ?_
    refine sl_mv rfl rfl rfl ?_
    refine sl_mv rfl rfl rfl ?_
    first
      | refine sl_sub_ rfl rfl rfl rfl (by constructor <;> omega) ?_
      | refine sl_bin rfl rfl rfl rfl rfl ?_
    refine sl_bin rfl rfl rfl rfl rfl ?_
    refine sl_nil ?_
    refine sw_cond rfl (fun hg => ?_) (fun hg => ?_)
    · have hg1 : 32 < runTo wordB s a - a := by have := of_decide_eq_true hg; omega
      refine sw_seq ?_
      refine sl_region ?_
      refine sl_bd rfl rfl .nil bi_45 zd_45 rfl ?_
      refine sl_stp rfl rfl rfl rfl sz_45 rfl rfl rfl (by repeat constructor) (Nat.le_of_ble_eq_true rfl) ?_
      refine sl_as rfl rfl rfl ?_
      refine sl_nil ?_
      refine sw_ret ⟨rfl, _, _, ResD.weaks (ds' := [.val (tokV noTok), .val (.int .i64 53)]) (res_mix (rs := [.cell 4 45, .tmp 5]) rfl (by decide) (.celln rfl ag_45 sz_45 (by repeat constructor) (Nat.le_of_ble_eq_true rfl) (.tmp rfl .nil))) (by repeat constructor), ?_, by rw [step_letter ha hl, if_pos hg1]; exact ⟨rfl, rfl⟩⟩
      repeat constructor
    have hg1 : ¬ 32 < runTo wordB s a - a := by have := of_decide_eq_false hg; omega
    refine sw_skip ?_
    refine sw_seq ?_
    refine sl_region ?_
    refine sl_mv rfl rfl rfl ?_
    refine sl_mv rfl rfl rfl ?_
    refine sl_mv rfl rfl rfl ?_
    refine sl_slice_str a (runTo wordB s a) rfl rfl rfl u_9 ⟨_, rfl⟩ ⟨_, rfl⟩ hge hle ?_
    refine sl_mv rfl rfl rfl ?_
    refine sl_bd rfl rfl (.cons rfl (.cons rfl (.cons rfl .nil))) bi_45 zd_45 rfl ?_
    refine sl_stp rfl rfl rfl rfl sz_45 rfl rfl rfl (by repeat constructor) (Nat.le_of_ble_eq_true rfl) ?_
    refine sl_as rfl rfl rfl ?_
    refine sl_nil ?_
    refine sw_ret ⟨rfl, _, _, ResD.weaks (ds' := [.val (tokV ⟨0, part s a (runTo wordB s a), a⟩), .val (.int .i64 0)]) (res_mix (rs := [.cell 4 45, .tmp 5]) rfl (by decide) (.celln rfl ag_45 sz_45 (by repeat constructor) (Nat.le_of_ble_eq_true rfl) (.tmp rfl .nil))) (by repeat constructor), ?_, by rw [step_letter ha hl, if_neg hg1]; exact ⟨rfl, rfl⟩⟩
    repeat constructor
  refine sw_seq ?_
  refine sl_region ?_
  refine sl_mv rfl rfl rfl ?_
  refine sl_callf rfl rfl cal_95 (digit_ok s[a] (.blk b4 zeroTok :: σ)) ?_ ?_ ?_ (fun _ _ h => h.elim)
  · repeat constructor
  · repeat constructor
  rintro _ _ ⟨rfl, rfl⟩
  refine sl_as rfl rfl rfl ?_
  refine sl_nil ?_
  refine sw_cond rfl (fun hd => ?_) (fun hd => ?_)
  · have hle := runTo_le (p := digitB) (Nat.le_of_lt ha)
    have hge := runTo_ge digitB s a
    refine sw_seq ?_
    refine sl_region ?_
    refine sl_mv rfl rfl rfl ?_
    refine sl_mv rfl rfl rfl ?_
    refine sl_callf rfl rfl cal_64 (run_ok 95 digitB cal_95 digit_ok s a (.blk b4 zeroTok :: σ) (Nat.le_of_lt ha) hs) ?_ ?_ ?_ (fun _ _ h => h.elim)
    · repeat constructor
    · repeat constructor
    rintro _ _ ⟨rfl, rfl⟩
    refine sl_as rfl rfl rfl ?_
    refine sl_nil ?_
    refine sw_seq ?_
    refine sw_seq ?_
    refine sl_region ?_
    refine sl_mv rfl rfl rfl ?_
    refine sl_mv rfl rfl rfl ?_
    refine sl_mv rfl rfl rfl ?_
    refine sl_slice_str a (runTo digitB s a) rfl rfl rfl u_9 ⟨_, rfl⟩ ⟨_, rfl⟩ hge hle ?_
    refine sl_callf rfl rfl cal_96 (number_ok (part s a (runTo digitB s a)) (.blk b4 zeroTok :: σ) (run_digits s a) (by rw [part_len hle]; omega)) ?_ ?_ ?_ (fun _ _ h => h.elim)
    · repeat constructor
    · repeat constructor
    rintro _ _ ⟨rfl, rfl⟩
    refine sl_as rfl rfl rfl ?_
    refine sl_nil ?_
    refine sw_seq ?_
    refine sl_region ?_
    refine sl_mv rfl rfl rfl ?_
    refine sl_bin rfl rfl rfl rfl rfl ?_
    refine sl_nil ?_
    refine sw_cond rfl (fun he => ?_) (fun he => ?_)
    · have he1 : numErr (part s a (runTo digitB s a)) ≠ 0 := by simpa using he
      refine sw_seq ?_
      refine sl_region ?_
      refine sl_bd rfl rfl .nil bi_45 zd_45 rfl ?_
      refine sl_mv rfl rfl rfl ?_
      refine sl_stp rfl rfl rfl rfl sz_45 rfl rfl rfl (by repeat constructor) (Nat.le_of_ble_eq_true rfl) ?_
      refine sl_as rfl rfl rfl ?_
      refine sl_nil ?_
      refine sw_ret ⟨rfl, _, _, ResD.weaks (ds' := [.val (tokV noTok), .val (.int .i64 (numErr (part s a (runTo digitB s a))))]) (res_mix (rs := [.cell 4 45, .tmp 5]) rfl (by decide) (.celln rfl ag_45 sz_45 (by repeat constructor) (Nat.le_of_ble_eq_true rfl) (.tmp rfl .nil))) (by repeat constructor), ?_, by rw [step_digit ha hl hd, if_pos he1]; exact ⟨rfl, rfl⟩⟩
      repeat constructor
    have he1 : ¬ numErr (part s a (runTo digitB s a)) ≠ 0 := by simpa using he
    refine sw_skip ?_
    refine sw_seq ?_
    refine sw_seq ?_
    refine sl_region ?_
    refine sl_mv rfl rfl rfl ?_
    refine sl_mv rfl rfl rfl ?_
    refine sl_len_str rfl rfl rfl u_9 ?_
    refine sl_bin rfl rfl rfl rfl rfl ?_
    refine sl_mv rfl rfl rfl ?_
    refine sl_case_at 50 rfl (fun hn => ?_) (fun hn => ?_)
    · have hn1 : runTo digitB s a < s.length := by have := of_decide_eq_true hn; omega
      refine sl_guard_y rfl rfl rfl hn ?_
      refine sl_mv rfl rfl rfl ?_
      refine sl_guard_y rfl rfl rfl hn ?_
      refine sl_mv rfl rfl rfl ?_
      refine sl_guard_y rfl rfl rfl hn ?_
      refine sl_index_str' rfl rfl rfl rfl u_9 (by omega) (List.getElem?_eq_getElem hn1) ?_
      refine sl_guard_y rfl rfl rfl hn ?_
      refine sl_callf rfl rfl cal_93 (letter_ok (s[runTo digitB s a]) (.blk b4 zeroTok :: σ)) ?_ ?_ ?_ (fun _ _ h => h.elim)
      · repeat constructor
      · repeat constructor
      rintro _ _ ⟨rfl, rfl⟩
      refine sl_pk_t rfl rfl rfl hn rfl ?_
      refine sl_nil ?_
      refine sw_cond rfl (fun hm => ?_) (fun hm => ?_)
      · refine sw_seq ?_
        refine sl_region ?_
        refine sl_bd rfl rfl .nil bi_45 zd_45 rfl ?_
        refine sl_stp rfl rfl rfl rfl sz_45 rfl rfl rfl (by repeat constructor) (Nat.le_of_ble_eq_true rfl) ?_
        refine sl_as rfl rfl rfl ?_
        refine sl_nil ?_
        refine sw_ret ⟨rfl, _, _, ResD.weaks (ds' := [.val (tokV noTok), .val (.int .i64 50)]) (res_mix (rs := [.cell 4 45, .tmp 5]) rfl (by decide) (.celln rfl ag_45 sz_45 (by repeat constructor) (Nat.le_of_ble_eq_true rfl) (.tmp rfl .nil))) (by repeat constructor), ?_, by rw [step_digit ha hl hd, if_neg he1, if_pos ⟨hn1, by rw [getD_at hn1]; exact hm⟩]; exact ⟨rfl, rfl⟩⟩
        repeat constructor
      refine sw_skip ?_
      refine sw_seq ?_
      refine sl_region ?_
      refine sl_mv rfl rfl rfl ?_
      refine sl_mv rfl rfl rfl ?_
      refine sl_mv rfl rfl rfl ?_
      refine sl_slice_str a (runTo digitB s a) rfl rfl rfl u_9 ⟨_, rfl⟩ ⟨_, rfl⟩ hge hle ?_
      refine sl_mv rfl rfl rfl ?_
      refine sl_bd rfl rfl (.cons rfl (.cons rfl (.cons rfl .nil))) bi_45 zd_45 rfl ?_
      refine sl_stp rfl rfl rfl rfl sz_45 rfl rfl rfl (by repeat constructor) (Nat.le_of_ble_eq_true rfl) ?_
      refine sl_as rfl rfl rfl ?_
      refine sl_nil ?_
      refine sw_ret ⟨rfl, _, _, ResD.weaks (ds' := [.val (tokV ⟨1, part s a (runTo digitB s a), a⟩), .val (.int .i64 0)]) (res_mix (rs := [.cell 4 45, .tmp 5]) rfl (by decide) (.celln rfl ag_45 sz_45 (by repeat constructor) (Nat.le_of_ble_eq_true rfl) (.tmp rfl .nil))) (by repeat constructor), ?_, by rw [step_digit ha hl hd, if_neg he1, if_neg (fun h => by have h2 := h.2; rw [getD_at hn1, show letterB (s[runTo digitB s a]) = false from hm] at h2; cases h2)]; exact ⟨rfl, rfl⟩⟩
      repeat constructor
    refine sl_guard_n rfl rfl rfl hn ?_
    refine sl_guard_n rfl rfl rfl hn ?_
    refine sl_guard_n rfl rfl rfl hn ?_
    refine sl_guard_n rfl rfl rfl hn ?_
    refine sl_pk_f rfl rfl rfl hn rfl ?_
    refine sl_nil ?_
    refine sw_false rfl (rfl) ?_
    refine sw_skip ?_
    refine sw_seq ?_
    refine sl_region ?_
    refine sl_mv rfl rfl rfl ?_
    refine sl_mv rfl rfl rfl ?_
    refine sl_mv rfl rfl rfl ?_
    refine sl_slice_str a (runTo digitB s a) rfl rfl rfl u_9 ⟨_, rfl⟩ ⟨_, rfl⟩ hge hle ?_
    refine sl_mv rfl rfl rfl ?_
    refine sl_bd rfl rfl (.cons rfl (.cons rfl (.cons rfl .nil))) bi_45 zd_45 rfl ?_
    refine sl_stp rfl rfl rfl rfl sz_45 rfl rfl rfl (by repeat constructor) (Nat.le_of_ble_eq_true rfl) ?_
    refine sl_as rfl rfl rfl ?_
    refine sl_nil ?_
    refine sw_ret ⟨rfl, _, _, ResD.weaks (ds' := [.val (tokV ⟨1, part s a (runTo digitB s a), a⟩), .val (.int .i64 0)]) (res_mix (rs := [.cell 4 45, .tmp 5]) rfl (by decide) (.celln rfl ag_45 sz_45 (by repeat constructor) (Nat.le_of_ble_eq_true rfl) (.tmp rfl .nil))) (by repeat constructor), ?_, by rw [step_digit ha hl hd, if_neg he1, if_neg (fun h => by have := h.1; have := of_decide_eq_false hn; omega)]; exact ⟨rfl, rfl⟩⟩
    repeat constructor
  refine sw_skip ?_
  refine sw_seq ?_
  refine sw_seq ?_
  refine sl_region ?_
  refine sl_mv rfl rfl rfl ?_
  refine sl_mv rfl rfl rfl ?_
  refine sl_slice_str a s.length rfl rfl rfl u_9 ⟨_, rfl⟩ rfl (Nat.le_of_lt ha) (Nat.le_refl _) ?_
  refine sl_set 65 (.val (.str (s.drop a))) (congrArg (fun l => D.val (.str l)) (List.take_of_length_le (by rw [List.length_drop]; exact Nat.le_refl _))) ?_
  refine sl_callf rfl rfl cal_97 (sign_ok (s.drop a) (.blk b4 zeroTok :: σ) (by rw [List.length_drop]; omega)) ?_ ?_ ?_ (fun _ _ h => h.elim)
  · repeat constructor
  · repeat constructor
  rintro _ _ ⟨rfl, rfl⟩
  refine sl_as rfl rfl rfl ?_
  refine sl_nil ?_
  refine sw_seq ?_
  refine sl_region ?_
  refine sl_mv rfl rfl rfl ?_
  refine sl_str rfl rfl rfl rfl rfl ?_
  refine sl_nil ?_
  refine sw_cond rfl (fun hx => ?_) (fun hx => ?_)
  · have hx1 : signOf (s.drop a) ≠ [] := by simpa using hx
    refine sw_seq ?_
    refine sl_region ?_
    refine sl_mv rfl rfl rfl ?_
    refine sl_mv rfl rfl rfl ?_
    refine sl_bd rfl rfl (.cons rfl (.cons rfl (.cons rfl .nil))) bi_45 zd_45 rfl ?_
    refine sl_stp rfl rfl rfl rfl sz_45 rfl rfl rfl (by repeat constructor) (Nat.le_of_ble_eq_true rfl) ?_
    refine sl_as rfl rfl rfl ?_
    refine sl_nil ?_
    refine sw_ret ⟨rfl, _, _, ResD.weaks (ds' := [.val (tokV ⟨2, signOf (s.drop a), a⟩), .val (.int .i64 0)]) (res_mix (rs := [.cell 4 45, .tmp 5]) rfl (by decide) (.celln rfl ag_45 sz_45 (by repeat constructor) (Nat.le_of_ble_eq_true rfl) (.tmp rfl .nil))) (by repeat constructor), ?_, by rw [step_sign ha hl hd, if_pos hx1]; exact ⟨rfl, rfl⟩⟩
    repeat constructor
  have hx1 : ¬ signOf (s.drop a) ≠ [] := by simpa using hx
  refine sw_skip ?_
  refine sw_seq ?_
  refine sl_region ?_
  refine sl_bd rfl rfl .nil bi_45 zd_45 rfl ?_
  refine sl_stp rfl rfl rfl rfl sz_45 rfl rfl rfl (by repeat constructor) (Nat.le_of_ble_eq_true rfl) ?_
  refine sl_as rfl rfl rfl ?_
  refine sl_nil ?_
  refine sw_ret ⟨rfl, _, _, ResD.weaks (ds' := [.val (tokV noTok), .val (.int .i64 50)]) (res_mix (rs := [.cell 4 45, .tmp 5]) rfl (by decide) (.celln rfl ag_45 sz_45 (by repeat constructor) (Nat.le_of_ble_eq_true rfl) (.tmp rfl .nil))) (by repeat constructor), ?_, by rw [step_sign ha hl hd, if_neg hx1]; exact ⟨rfl, rfl⟩⟩
  repeat constructor

/-- Tokens tells a text's tokens. -/
theorem tokens_ok (s : List UInt8) (σ : List Chunk) (hs : s.length ≤ 100000000) :
    FSpec Try.prog 24 [.val (.str s)] σ (fun d σ' => d = .tup [.val (.list ((toks s).1.map tokV)), .val (.int .i64 ((toks s).2.1 : Int)), .val (.int .i64 (toks s).2.2)] ∧ σ' = σ) := by
  refine spec_of_sw Try.func24 rfl ?_
  refine sw_seq ?_
  refine sl_region ?_
  refine sl_as rfl rfl rfl ?_
  refine sl_as rfl rfl rfl ?_
  refine sl_as rfl rfl rfl ?_
  refine sl_nil ?_
  refine sw_seq ?_
  refine sw_seq ?_
  refine sl_region ?_
  refine sl_mv rfl rfl rfl ?_
  refine sl_len_str rfl rfl rfl u_9 ?_
  refine sl_bin rfl rfl rfl rfl rfl ?_
  refine sl_nil ?_
  refine sw_cond rfl (fun hg => ?_) (fun hg => ?_)
  · have hg1 : 4096 < s.length := by have := of_decide_eq_true hg; omega
    refine sw_seq ?_
    refine sl_region ?_
    refine sl_as rfl rfl rfl ?_
    refine sl_as rfl rfl rfl ?_
    refine sl_as rfl rfl rfl ?_
    refine sl_nil ?_
    refine sw_ret ⟨rfl, _, _, ResD.weaks (ds' := [.val (.list []), .val (.int .i64 0), .val (.int .i64 53)]) (res_many (ts := [2, 3, 4]) rfl (by decide) rfl) (by repeat constructor), ?_, by unfold toks; rw [if_pos hg1]; exact ⟨rfl, rfl⟩⟩
    repeat constructor
  have hg1 : ¬ 4096 < s.length := by have := of_decide_eq_false hg; omega
  refine sw_skip ?_
  refine sw_seq ?_
  refine sl_region ?_
  refine sl_as rfl rfl rfl ?_
  refine sl_nil ?_
  refine sw_seq ?_
  refine sw_seq ?_
  refine sw_own (t := 5) (sz := 3) rfl (fun e0 => ?_)
  refine sl_region ?_
  refine sl_as rfl rfl rfl ?_
  refine sl_nil ?_
  refine sw_block ?_
  refine sw_loopw (fun nX sX δX σX => ∃ (n a : Nat) (out : List Tok) (v : Value), (n) = nX ∧ sX = ⟨51, (.cons 0 (.val (.str s)) (.cons 5 (.own v (out.map tokV)) (.cons 6 (.val (.int .i64 (a : Int))) .nil)))⟩ ∧ δX = [] ∧ σX = .spare v 3 :: σ ∧ (a ≤ s.length) ∧ (s.length - a ≤ n) ∧ (lexFrom s n a out = lexFrom s s.length 0 []) ∧ (out.length ≤ a)) ?_ ?_
  · refine ⟨_, _, _, ?_, ?_, s.length, 0, [], e0, rfl, rfl, rfl, rfl, (Nat.zero_le _), (Nat.le_refl _), (rfl), (Nat.le_refl _)⟩
    · exact ⟨rfl, by repeat constructor⟩
    · repeat constructor
  rintro nX sX δX σX ⟨n, a, out, v, rfl, rfl, rfl, rfl, ha, hn, hlex, hout⟩
  refine sw_seq ?_
  refine sw_seq ?_
  refine sl_region ?_
  refine sl_mv rfl rfl rfl ?_
  refine sl_mv rfl rfl rfl ?_
  refine sl_len_str rfl rfl rfl u_9 ?_
  refine sl_bin rfl rfl rfl rfl rfl ?_
  refine sl_nil ?_
  refine sw_cond rfl (fun hc => ?_) (fun hc => ?_)
  · have hc1 : a < s.length := by have := of_decide_eq_true hc; omega
    obtain ⟨n, rfl⟩ : ∃ m, n = m + 1 := ⟨n - 1, by omega⟩
    refine sw_skip ?_
    refine sw_block ?_
    refine sw_block ?_
    refine sw_seq ?_
    refine sl_region ?_
    refine sl_mv rfl rfl rfl ?_
    refine sl_mv rfl rfl rfl ?_
    refine sl_index_str' rfl rfl rfl rfl u_9 (by omega) (List.getElem?_eq_getElem hc1) ?_
    refine sl_callf rfl rfl cal_63 (blank_ok s[a] (.spare v 3 :: σ)) ?_ ?_ ?_ (fun _ _ h => h.elim)
    · repeat constructor
    · repeat constructor
    rintro _ _ ⟨rfl, rfl⟩
    refine sl_as rfl rfl rfl ?_
    refine sl_nil ?_
    refine sw_cond rfl (fun hb => ?_) (fun hb => ?_)
    · rw [lex_blank hc1 hb] at hlex
      refine sl_region ?_
      refine sl_mv rfl rfl rfl ?_
      first
        | refine sl_inc rfl rfl rfl rfl (by omega) ?_
        | refine sl_add rfl rfl rfl rfl (by constructor <;> omega) ?_
        | refine sl_bin rfl rfl rfl rfl rfl ?_
      refine sl_as rfl rfl rfl ?_
      refine sl_nil ?_
      refine ⟨_, by omega, _, _, ?_, ?_, n, a + 1, out, v, rfl, rfl, rfl, rfl, (by omega), (by omega), (hlex), (by omega)⟩
      · exact ⟨rfl, by repeat constructor⟩
      · repeat constructor
    refine sw_seq ?_
    refine sl_region ?_
    refine sl_mv rfl rfl rfl ?_
    refine sl_mv rfl rfl rfl ?_
    refine sl_index_str' rfl rfl rfl rfl u_9 (by omega) (List.getElem?_eq_getElem hc1) ?_
    refine sl_bin rfl rfl rfl rfl rfl ?_
    refine sl_as rfl rfl rfl ?_
    refine sl_nil ?_
    refine sw_cond rfl (fun hx => ?_) (fun hx => ?_)
    · have hx1 : s[a].toNat = 35 := by have := eq_of_beq hx; omega
      rw [lex_note hc1 hb hx1] at hlex
      have hl1 : lineB s[a] = true := decide_eq_true (by omega)
      have hr1 := runTo_go hc1 hl1
      have hr2 := runTo_ge lineB s (a + 1)
      have hr3 := runTo_le (p := lineB) (Nat.le_of_lt hc1)
      refine sl_region ?_
      refine sl_mv rfl rfl rfl ?_
      refine sl_mv rfl rfl rfl ?_
      refine sl_callf rfl rfl cal_64 (run_ok 65 lineB cal_65 line_ok s a (.spare v 3 :: σ) (Nat.le_of_lt hc1) hs) ?_ ?_ ?_ (fun _ _ h => h.elim)
      · repeat constructor
      · repeat constructor
      rintro _ _ ⟨rfl, rfl⟩
      refine sl_as rfl rfl rfl ?_
      refine sl_nil ?_
      refine ⟨_, by omega, _, _, ?_, ?_, n, runTo lineB s a, out, v, rfl, rfl, rfl, rfl, (hr3), (by omega), (hlex), (by omega)⟩
      · exact ⟨rfl, by repeat constructor⟩
      · repeat constructor
    have hx1 : s[a].toNat ≠ 35 := by intro h; rw [h] at hx; simp at hx
    refine sw_seq ?_
    refine sl_region ?_
    refine sl_mv rfl rfl rfl ?_
    refine sl_mv rfl rfl rfl ?_
    refine sl_callf rfl rfl cal_66 (token_ok s a (.spare v 3 :: σ) hc1 hs) ?_ ?_ ?_ (fun _ _ h => h.elim)
    · repeat constructor
    · repeat constructor
    rintro _ _ ⟨rfl, rfl⟩
    obtain ⟨t, ht⟩ : ∃ t, t = (tokStep s a).1 := ⟨_, rfl⟩
    obtain ⟨e, he⟩ : ∃ t, t = (tokStep s a).2 := ⟨_, rfl⟩
    rw [← ht, ← he]
    refine sl_mv rfl rfl rfl ?_
    refine sl_extract rfl rfl rfl rfl ?_
    refine sl_extract rfl rfl rfl rfl ?_
    refine sl_alloc rfl rfl zd_45 (fun b7 => ?_)
    refine sl_stp rfl rfl rfl rfl sz_45 rfl rfl rfl (by repeat constructor) (Nat.le_of_ble_eq_true rfl) ?_
    refine sl_as rfl rfl rfl ?_
    refine sl_nil ?_
    refine sw_seq ?_
    refine sw_seq ?_
    refine sl_region ?_
    refine sl_mv rfl rfl rfl ?_
    refine sl_bin rfl rfl rfl rfl rfl ?_
    refine sl_nil ?_
    refine sw_cond rfl (fun hf => ?_) (fun hf => ?_)
    · have hf1 : e ≠ 0 := by simpa using hf
      rw [lex_bad hc1 hb hx1 (by rw [← he]; exact hf1), ← he] at hlex
      refine sw_seq ?_
      refine sl_region ?_
      refine sl_mv rfl rfl rfl ?_
      refine sl_mv rfl rfl rfl ?_
      refine sl_as rfl rfl rfl ?_
      refine sl_as rfl rfl rfl ?_
      refine sl_as rfl rfl rfl ?_
      refine sl_nil ?_
      refine sw_ret ⟨rfl, _, _, ResD.weaks (ds' := [.val (.list []), .val (.int .i64 (a : Int)), .val (.int .i64 e)]) (res_many (ts := [2, 3, 4]) rfl (by decide) rfl) (by repeat constructor), ?_, by unfold toks; rw [if_neg hg1, ← hlex]; exact ⟨rfl, rfl⟩⟩
      repeat constructor
    have hf1 : e = 0 := by simpa using hf
    have hp := step_pos hc1 (by rw [← he]; exact hf1)
    rw [lex_tok hc1 hb hx1 (by rw [← he]; exact hf1), ← ht] at hlex
    rw [← ht] at hp
    refine sw_skip ?_
    refine sw_seq ?_
    refine sl_region ?_
    refine sl_mv rfl rfl rfl ?_
    first
      | refine sl_load_rpn rfl rfl rfl ag_45 sz_45 (Nat.le_of_ble_eq_true rfl) ?_
      | refine sl_load_blkn rfl rfl rfl ag_45 sz_45 (by repeat constructor) (Nat.le_of_ble_eq_true rfl) ?_
      | refine sl_load_ref rfl rfl rfl ag_45 sz_45 (Nat.le_of_ble_eq_true rfl) ?_
    refine sl_bsn ([tokV t]) rfl rfl (.cons rfl .nil) u_40 sz_45 zs_45 (by decide) rfl rfl rfl (SzI.get (by repeat constructor)) ?_
    refine sl_appp rfl rfl rfl rfl u_40 ⟨_, u_40, rfl⟩ el_45 (by repeat constructor) (by repeat constructor) (by simp only [List.length_map, List.length_cons, List.length_nil]; omega) ((by rw [List.map_append]; rfl : _ = (out ++ [t]).map tokV)) (by repeat constructor) (fun v29 => ?_)
    refine sl_as rfl rfl rfl ?_
    refine sl_nil ?_
    refine sl_region ?_
    refine sl_mv rfl rfl rfl ?_
    first
      | refine sl_fieldAddr_ptr rfl rfl rfl fo_45_1 ?_
      | refine sl_fieldAddr_rp rfl rfl rfl fo_45_1 ?_
      | refine sl_fieldAddr_ref rfl rfl rfl fo_45_1 ?_
    first
      | refine sl_load_rp1 rfl rfl rfl ag_9 rfl ?_
      | refine sl_load_blk1 rfl rfl rfl ag_9 (by repeat constructor) rfl ?_
    refine sl_len_str rfl rfl rfl u_9 ?_
    first
      | refine sl_inc rfl rfl rfl rfl (by omega) ?_
      | refine sl_add rfl rfl rfl rfl (by constructor <;> omega) ?_
      | refine sl_bin rfl rfl rfl rfl rfl ?_
    refine sl_set 34 (.val (.int .i64 ((a + t.text.length : Nat) : Int))) (congrArg (fun z => D.val (.int .i64 z)) (by omega)) ?_
    refine sl_as rfl rfl rfl ?_
    refine sl_nil ?_
    refine ⟨_, by omega, _, _, ?_, ?_, n, a + t.text.length, out ++ [t], v29, rfl, rfl, rfl, rfl, (by omega), (by omega), (hlex), (by rw [List.length_append, List.length_singleton]; omega)⟩
    · exact ⟨rfl, by repeat constructor⟩
    · repeat constructor
  have hc1 : s.length ≤ a := by have := of_decide_eq_false hc; omega
  rw [lex_end hc1] at hlex
  refine sw_exit ?_
  refine sw_seq ?_
  refine sl_region ?_
  refine sl_mv rfl rfl rfl ?_
  refine sl_as rfl rfl rfl ?_
  refine sl_as rfl rfl rfl ?_
  refine sl_as rfl rfl rfl ?_
  refine sl_nil ?_
  refine sw_ret ⟨rfl, _, _, ResD.weaks (ds' := [.val (.list (out.map tokV)), .val (.int .i64 0), .val (.int .i64 0)]) (res_many (ts := [2, 3, 4]) rfl (by decide) rfl) (by repeat constructor), ?_, by unfold toks; rw [if_neg hg1, ← hlex]; exact ⟨rfl, rfl⟩⟩
  repeat constructor

end Go.Proofs.Ytioechdfghglhaa

/- Walks: printed by a program of this session out of its script LexD. -/
namespace Go.Proofs.Ytioechdfghglhaa
set_option linter.unusedVariables false
set_option linter.unusedSimpArgs false
set_option maxRecDepth 4000
set_option maxHeartbeats 4000000
open Go Go.RowKit SL


/-- one: does a byte stand in a text? -/
theorem one_ok (l : List UInt8) (c : UInt8) (σ : List Chunk) (hl : l.length ≤ 100000000) : FSpec Try.prog 69 [.val (.str l), .val (byteV c)] σ (fun d σ' => d = .val (.bool (l.contains c)) ∧ σ' = σ) := by
  refine spec_of_sw Try.func69 rfl ?_
  refine sw_seq ?_
  refine sl_region ?_
  refine sl_as rfl rfl rfl ?_
  refine sl_nil ?_
  refine sw_seq ?_
  refine sw_seq ?_
  refine sl_region ?_
  refine sl_as rfl rfl rfl ?_
  refine sl_nil ?_
  refine sw_block ?_
  refine sw_loopw (fun nX sX δX σX => ∃ (j : Nat), (l.length - j) = nX ∧ sX = ⟨17, (.cons 0 (.val (.str l)) (.cons 1 (.val (byteV c)) (.cons 5 (.val (.int .i64 (j : Int))) .nil)))⟩ ∧ δX = [] ∧ σX = σ ∧ (j ≤ l.length) ∧ ((l.take j).contains c = false)) ?_ ?_
  · refine ⟨_, _, _, ?_, ?_, 0, rfl, rfl, rfl, rfl, (Nat.zero_le _), (rfl)⟩
    · exact ⟨rfl, by repeat constructor⟩
    · repeat constructor
  rintro nX sX δX σX ⟨j, rfl, rfl, rfl, rfl, hj, hall⟩
  refine sw_seq ?_
  refine sw_seq ?_
  refine sl_region ?_
  refine sl_mv rfl rfl rfl ?_
  refine sl_mv rfl rfl rfl ?_
  refine sl_len_str rfl rfl rfl u_9 ?_
  refine sl_bin rfl rfl rfl rfl rfl ?_
  refine sl_nil ?_
  refine sw_cond rfl (fun hc => ?_) (fun hc => ?_)
  · have hj1 : j < l.length := by have := of_decide_eq_true hc; omega
    refine sw_skip ?_
    refine sw_seq ?_
    refine sw_block ?_
    refine sw_seq ?_
    refine sl_region ?_
    refine sl_mv rfl rfl rfl ?_
    refine sl_mv rfl rfl rfl ?_
    refine sl_index_str' rfl rfl rfl rfl u_9 (by omega) (List.getElem?_eq_getElem hj1) ?_
    refine sl_mv rfl rfl rfl ?_
    refine sl_bin rfl rfl rfl rfl rfl ?_
    refine sl_nil ?_
    refine sw_cond rfl (fun he => ?_) (fun he => ?_)
    · have he1 : l[j] = c := byte_is he
      refine sw_seq ?_
      refine sl_region ?_
      refine sl_as rfl rfl rfl ?_
      refine sl_nil ?_
      refine sw_ret ⟨rfl, _, _, res_one rfl rfl, ?_, ⟨congrArg (fun b => D.val (.bool b)) (List.contains_iff_mem.mpr (he1 ▸ List.getElem_mem hj1)).symm, rfl⟩⟩
      repeat constructor
    have he1 : l[j] ≠ c := byte_isnt he
    refine sw_skip ?_
    refine sl_region ?_
    refine sl_mv rfl rfl rfl ?_
    first
      | refine sl_inc rfl rfl rfl rfl (by omega) ?_
      | refine sl_add rfl rfl rfl rfl (by constructor <;> omega) ?_
      | refine sl_bin rfl rfl rfl rfl rfl ?_
    refine sl_as rfl rfl rfl ?_
    refine sl_nil ?_
    refine ⟨_, by omega, _, _, ?_, ?_, j + 1, rfl, rfl, rfl, rfl, (by omega), (by rw [take_snoc hj1, List.contains_eq_mem] at *; simp only [List.mem_append, List.mem_singleton, decide_eq_false_iff_not, not_or] at *; exact ⟨hall, fun e => he1 e.symm⟩)⟩
    · exact ⟨rfl, by repeat constructor⟩
    · repeat constructor
  have hj1 : j = l.length := by have := of_decide_eq_false hc; omega
  rw [hj1, List.take_length] at hall
  refine sw_exit ?_
  refine sw_seq ?_
  refine sl_region ?_
  refine sl_as rfl rfl rfl ?_
  refine sl_nil ?_
  refine sw_ret ⟨rfl, _, _, res_one rfl rfl, ?_, ⟨by rw [hall]; rfl, rfl⟩⟩
  repeat constructor


/-- The document's Tokens. -/
theorem xtokens_ok (s : List UInt8) (σ : List Chunk) (hs : s.length ≤ 100000000) :
    FSpec Try.prog 26 [.val (.str s)] σ (fun d σ' => d = .tup [.val (.list ((toks s).1.map tokV)), .val (.int .i64 ((toks s).2.1 : Int)), .val (.int .i64 (toks s).2.2)] ∧ σ' = σ) := by
  refine spec_of_sw Try.func26 rfl ?_
  refine sw_seq ?_
  refine sl_region ?_
  refine sl_as rfl rfl rfl ?_
  refine sl_as rfl rfl rfl ?_
  refine sl_as rfl rfl rfl ?_
  refine sl_nil ?_
  refine sw_seq ?_
  refine sw_seq ?_
  refine sl_region ?_
  refine sl_mv rfl rfl rfl ?_
  refine sl_len_str rfl rfl rfl u_9 ?_
  refine sl_bin rfl rfl rfl rfl rfl ?_
  refine sl_nil ?_
  refine sw_cond rfl (fun hg => ?_) (fun hg => ?_)
  · have hg1 : 4096 < s.length := by have := of_decide_eq_true hg; omega
    refine sw_seq ?_
    refine sl_region ?_
    refine sl_as rfl rfl rfl ?_
    refine sl_as rfl rfl rfl ?_
    refine sl_as rfl rfl rfl ?_
    refine sl_nil ?_
    refine sw_ret ⟨rfl, _, _, ResD.weaks (ds' := [.val (.list []), .val (.int .i64 0), .val (.int .i64 53)]) (res_many (ts := [2, 3, 4]) rfl (by decide) rfl) (by repeat constructor), ?_, by unfold toks; rw [if_pos hg1]; exact ⟨rfl, rfl⟩⟩
    repeat constructor
  have hg1 : ¬ 4096 < s.length := by have := of_decide_eq_false hg; omega
  refine sw_skip ?_
  refine sw_seq ?_
  refine sl_region ?_
  refine sl_as rfl rfl rfl ?_
  refine sl_nil ?_
  refine sw_seq ?_
  refine sw_seq ?_
  refine sw_own (t := 5) (sz := 3) rfl (fun e0 => ?_)
  refine sl_region ?_
  refine sl_as rfl rfl rfl ?_
  refine sl_nil ?_
  refine sw_block ?_
  refine sw_loopw (fun nX sX δX σX => ∃ (n a : Nat) (out : List Tok) (v : Value), (n) = nX ∧ sX = ⟨229, (.cons 0 (.val (.str s)) (.cons 5 (.own v (out.map tokV)) (.cons 6 (.val (.int .i64 (a : Int))) .nil)))⟩ ∧ δX = [] ∧ σX = .spare v 3 :: σ ∧ (a ≤ s.length) ∧ (s.length - a ≤ n) ∧ (lexFrom s n a out = lexFrom s s.length 0 []) ∧ (out.length ≤ a)) ?_ ?_
  · refine ⟨_, _, _, ?_, ?_, s.length, 0, [], e0, rfl, rfl, rfl, rfl, (Nat.zero_le _), (Nat.le_refl _), (rfl), (Nat.le_refl _)⟩
    · exact ⟨rfl, by repeat constructor⟩
    · repeat constructor
  rintro nX sX δX σX ⟨n, a, out, v, rfl, rfl, rfl, rfl, ha, hn, hlex, hout⟩
  refine sw_seq ?_
  refine sw_seq ?_
  refine sl_region ?_
  refine sl_mv rfl rfl rfl ?_
  refine sl_mv rfl rfl rfl ?_
  refine sl_len_str rfl rfl rfl u_9 ?_
  refine sl_bin rfl rfl rfl rfl rfl ?_
  refine sl_nil ?_
  refine sw_cond rfl (fun hc => ?_) (fun hc => ?_)
  · have hc1 : a < s.length := by have := of_decide_eq_true hc; omega
    obtain ⟨n, rfl⟩ : ∃ m, n = m + 1 := ⟨n - 1, by omega⟩
    refine sw_skip ?_
    refine sw_block ?_
    refine sw_seq ?_
    refine sl_region ?_
    refine sl_mv rfl rfl rfl ?_
    refine sl_mv rfl rfl rfl ?_
    refine sl_index_str' rfl rfl rfl rfl u_9 (by omega) (List.getElem?_eq_getElem hc1) ?_
    refine sl_as rfl rfl rfl ?_
    refine sl_nil ?_
    refine sw_seq ?_
    refine sl_region ?_
    refine sl_mv rfl rfl rfl ?_
    refine sl_as rfl rfl rfl ?_
    refine sl_nil ?_
    refine sw_block ?_
    refine sw_seq ?_
    refine sw_cutk ⟨229, (.cons 0 (.val (.str s)) (.cons 5 (.own v (out.map tokV)) (.cons 6 (.val (.int .i64 (a : Int))) (.cons 7 (.val (byteV s[a])) (.cons 8 (.val (.int .i64 (a : Int))) (.cons 100 (.val (.bool (blankB s[a]))) .nil))))))⟩ (.spare v 3 :: σ) (True) ?_ ?_
    · refine sl_region ?_
      refine sl_mv rfl rfl rfl ?_
      refine sl_bin rfl rfl rfl rfl rfl ?_
      refine sl_mv rfl rfl rfl ?_
      refine sl_case_at 103 rfl (fun hg3 => ?_) (fun hg3 => ?_)
      · refine sl_guard_n rfl rfl rfl hg3 ?_
        refine sl_guard_n rfl rfl rfl hg3 ?_
        refine sl_pk_t rfl rfl rfl hg3 rfl ?_
        refine sl_mv rfl rfl rfl ?_
        refine sl_guard_n rfl rfl rfl (rfl) ?_
        refine sl_guard_n rfl rfl rfl (rfl) ?_
        refine sl_pk_t rfl rfl rfl (rfl) rfl ?_
        refine sl_mv rfl rfl rfl ?_
        refine sl_guard_n rfl rfl rfl (rfl) ?_
        refine sl_guard_n rfl rfl rfl (rfl) ?_
        refine sl_pk_t rfl rfl rfl (rfl) rfl ?_
        refine sl_set 114 (.val (.bool (blankB s[a]))) (congrArg (fun b => D.val (.bool b)) (by rw [Bool.eq_iff_iff]; simp only [blankB, decide_eq_true_eq, decide_eq_false_iff_not, beq_iff_eq, bne_iff_ne, beq_eq_false_iff_ne, ne_eq, true_iff, Bool.false_eq_true, false_iff] at *; omega)) ?_
        refine sl_as rfl rfl rfl ?_
        refine sl_nil ?_
        refine ⟨?_, ?_, rfl, trivial⟩
        · exact ⟨rfl, by repeat constructor⟩
        · repeat constructor
      refine sl_guard_y rfl rfl rfl hg3 ?_
      refine sl_mv rfl rfl rfl ?_
      refine sl_guard_y rfl rfl rfl hg3 ?_
      refine sl_bin rfl rfl rfl rfl rfl ?_
      refine sl_pk_f rfl rfl rfl hg3 rfl ?_
      refine sl_mv rfl rfl rfl ?_
      refine sl_case_at 107 rfl (fun hg4 => ?_) (fun hg4 => ?_)
      · refine sl_guard_n rfl rfl rfl hg4 ?_
        refine sl_guard_n rfl rfl rfl hg4 ?_
        refine sl_pk_t rfl rfl rfl hg4 rfl ?_
        refine sl_mv rfl rfl rfl ?_
        refine sl_guard_n rfl rfl rfl (rfl) ?_
        refine sl_guard_n rfl rfl rfl (rfl) ?_
        refine sl_pk_t rfl rfl rfl (rfl) rfl ?_
        refine sl_set 114 (.val (.bool (blankB s[a]))) (congrArg (fun b => D.val (.bool b)) (by rw [Bool.eq_iff_iff]; simp only [blankB, decide_eq_true_eq, decide_eq_false_iff_not, beq_iff_eq, bne_iff_ne, beq_eq_false_iff_ne, ne_eq, true_iff, Bool.false_eq_true, false_iff] at *; omega)) ?_
        refine sl_as rfl rfl rfl ?_
        refine sl_nil ?_
        refine ⟨?_, ?_, rfl, trivial⟩
        · exact ⟨rfl, by repeat constructor⟩
        · repeat constructor
      refine sl_guard_y rfl rfl rfl hg4 ?_
      refine sl_mv rfl rfl rfl ?_
      refine sl_guard_y rfl rfl rfl hg4 ?_
      refine sl_bin rfl rfl rfl rfl rfl ?_
      refine sl_pk_f rfl rfl rfl hg4 rfl ?_
      refine sl_mv rfl rfl rfl ?_
      refine sl_case_at 111 rfl (fun hg5 => ?_) (fun hg5 => ?_)
      · refine sl_guard_n rfl rfl rfl hg5 ?_
        refine sl_guard_n rfl rfl rfl hg5 ?_
        refine sl_pk_t rfl rfl rfl hg5 rfl ?_
        refine sl_set 114 (.val (.bool (blankB s[a]))) (congrArg (fun b => D.val (.bool b)) (by rw [Bool.eq_iff_iff]; simp only [blankB, decide_eq_true_eq, decide_eq_false_iff_not, beq_iff_eq, bne_iff_ne, beq_eq_false_iff_ne, ne_eq, true_iff, Bool.false_eq_true, false_iff] at *; omega)) ?_
        refine sl_as rfl rfl rfl ?_
        refine sl_nil ?_
        refine ⟨?_, ?_, rfl, trivial⟩
        · exact ⟨rfl, by repeat constructor⟩
        · repeat constructor
      refine sl_guard_y rfl rfl rfl hg5 ?_
      refine sl_mv rfl rfl rfl ?_
      refine sl_guard_y rfl rfl rfl hg5 ?_
      refine sl_bin rfl rfl rfl rfl rfl ?_
      refine sl_pk_f rfl rfl rfl hg5 rfl ?_
      refine sl_set 114 (.val (.bool (blankB s[a]))) (congrArg (fun b => D.val (.bool b)) (by rw [Bool.eq_iff_iff]; simp only [blankB, decide_eq_true_eq, decide_eq_false_iff_not, beq_iff_eq, bne_iff_ne, beq_eq_false_iff_ne, ne_eq, true_iff, Bool.false_eq_true, false_iff] at *; omega)) ?_
      refine sl_as rfl rfl rfl ?_
      refine sl_nil ?_
      refine ⟨?_, ?_, rfl, trivial⟩
      · exact ⟨rfl, by repeat constructor⟩
      · repeat constructor
    intro _
    refine sw_cond rfl (fun hb => ?_) (fun hb => ?_)
    · rw [lex_blank hc1 hb] at hlex
      refine sw_seq ?_
      refine sl_region ?_
      refine sl_mv rfl rfl rfl ?_
      first
        | refine sl_inc rfl rfl rfl rfl (by omega) ?_
        | refine sl_add rfl rfl rfl rfl (by constructor <;> omega) ?_
        | refine sl_bin rfl rfl rfl rfl rfl ?_
      refine sl_as rfl rfl rfl ?_
      refine sl_nil ?_
      refine sw_exit ?_
      refine ⟨_, by omega, _, _, ?_, ?_, n, a + 1, out, v, rfl, rfl, rfl, rfl, (by omega), (by omega), (hlex), (by omega)⟩
      · exact ⟨rfl, by repeat constructor⟩
      · repeat constructor
    refine sw_seq ?_
    refine sl_region ?_
    refine sl_mv rfl rfl rfl ?_
    refine sl_bin rfl rfl rfl rfl rfl ?_
    refine sl_as rfl rfl rfl ?_
    refine sl_nil ?_
    refine sw_cond rfl (fun hx => ?_) (fun hx => ?_)
    · have hx1 : s[a].toNat = 35 := by have := eq_of_beq hx; omega
      rw [lex_note hc1 hb hx1] at hlex
      have hl1 : lineB s[a] = true := decide_eq_true (by omega)
      have hr1 := runTo_go hc1 hl1
      have hr2 := runTo_ge lineB s (a + 1)
      have hr3 := runTo_le (p := lineB) (Nat.le_of_lt hc1)
      refine sw_seq ?_
      refine sw_block ?_
      refine sw_loopw (fun nX sX δX σX => ∃ (i : Nat), (s.length - i) = nX ∧ sX = ⟨229, (.cons 0 (.val (.str s)) (.cons 5 (.own v (out.map tokV)) (.cons 6 (.val (.int .i64 (i : Int))) .nil)))⟩ ∧ δX = [] ∧ σX = .spare v 3 :: σ ∧ (a ≤ i ∧ i ≤ s.length) ∧ (runTo lineB s a = runTo lineB s i)) ?_ ?_
      · refine ⟨_, _, _, ?_, ?_, a, rfl, rfl, rfl, rfl, (⟨Nat.le_refl _, by omega⟩), (rfl)⟩
        · exact ⟨rfl, by repeat constructor⟩
        · repeat constructor
      rintro nX sX δX σX ⟨i, rfl, rfl, rfl, rfl, hi, hr⟩
      refine sw_seq ?_
      refine sw_seq ?_
      refine sw_cutk ⟨229, (.cons 0 (.val (.str s)) (.cons 5 (.own v (out.map tokV)) (.cons 6 (.val (.int .i64 (i : Int))) (.cons 129 (.val (.bool (goes lineB s i))) .nil))))⟩ (.spare v 3 :: σ) (True) ?_ ?_
      · refine sl_region ?_
        refine sl_mv rfl rfl rfl ?_
        refine sl_mv rfl rfl rfl ?_
        refine sl_len_str rfl rfl rfl u_9 ?_
        refine sl_bin rfl rfl rfl rfl rfl ?_
        refine sl_mv rfl rfl rfl ?_
        refine sl_case_at 124 rfl (fun h1 => ?_) (fun h1 => ?_)
        · have h2 : i < s.length := by have := of_decide_eq_true h1; omega
          refine sl_guard_y rfl rfl rfl h1 ?_
          refine sl_mv rfl rfl rfl ?_
          refine sl_guard_y rfl rfl rfl h1 ?_
          refine sl_mv rfl rfl rfl ?_
          refine sl_guard_y rfl rfl rfl h1 ?_
          refine sl_index_str' rfl rfl rfl rfl u_9 (by omega) (List.getElem?_eq_getElem h2) ?_
          refine sl_guard_y rfl rfl rfl h1 ?_
          refine sl_bin rfl rfl rfl rfl rfl ?_
          refine sl_pk_t rfl rfl rfl h1 rfl ?_
          refine sl_set 129 (.val (.bool (goes lineB s i))) (congrArg (fun b => D.val (.bool b)) (by rw [goes_in h2, Bool.eq_iff_iff]; simp only [lineB, decide_eq_true_eq, bne_iff_ne, ne_eq]; omega)) ?_
          refine sl_nil ?_
          refine ⟨?_, ?_, rfl, trivial⟩
          · exact ⟨rfl, by repeat constructor⟩
          · repeat constructor
        refine sl_guard_n rfl rfl rfl h1 ?_
        refine sl_guard_n rfl rfl rfl h1 ?_
        refine sl_guard_n rfl rfl rfl h1 ?_
        refine sl_guard_n rfl rfl rfl h1 ?_
        refine sl_pk_f rfl rfl rfl h1 rfl ?_
        refine sl_set 129 (.val (.bool (goes lineB s i))) (congrArg (fun b => D.val (.bool b)) (goes_out (by have := of_decide_eq_false h1; omega)).symm) ?_
        refine sl_nil ?_
        refine ⟨?_, ?_, rfl, trivial⟩
        · exact ⟨rfl, by repeat constructor⟩
        · repeat constructor
      intro _
      refine sw_cond rfl (fun hgo => ?_) (fun hgo => ?_)
      · have h2 := goes_t hgo
        refine sw_skip ?_
        refine sw_block ?_
        refine sl_region ?_
        refine sl_mv rfl rfl rfl ?_
        first
          | refine sl_inc rfl rfl rfl rfl (by omega) ?_
          | refine sl_add rfl rfl rfl rfl (by constructor <;> omega) ?_
          | refine sl_bin rfl rfl rfl rfl rfl ?_
        refine sl_as rfl rfl rfl ?_
        refine sl_nil ?_
        refine ⟨_, by omega, _, _, ?_, ?_, i + 1, rfl, rfl, rfl, rfl, (⟨by omega, by omega⟩), (by rw [hr, h2.2])⟩
        · exact ⟨rfl, by repeat constructor⟩
        · repeat constructor
      rw [hr, goes_f hgo] at hlex
      rw [hr, goes_f hgo] at hr1
      refine sw_exit ?_
      refine sw_exit ?_
      refine ⟨_, by omega, _, _, ?_, ?_, n, i, out, v, rfl, rfl, rfl, rfl, (hi.2), (by omega), (hlex), (by omega)⟩
      · exact ⟨rfl, by repeat constructor⟩
      · repeat constructor
    have hx1 : s[a].toNat ≠ 35 := by intro h; rw [h] at hx; simp at hx
    refine sw_seq ?_
    refine sl_region ?_
    refine sl_mv rfl rfl rfl ?_
    refine sl_callf rfl rfl cal_67 (xletter_ok s[a] (.spare v 3 :: σ)) ?_ ?_ ?_ (fun _ _ h => h.elim)
    · repeat constructor
    · repeat constructor
    rintro _ _ ⟨rfl, rfl⟩
    refine sl_as rfl rfl rfl ?_
    refine sl_nil ?_
    refine sw_cond rfl (fun hl => ?_) (fun hl => ?_)
    · have hw : wordB s[a] = true := by unfold wordB; rw [show letterB s[a] = true from hl]; rfl
      have hr1 := runTo_go hc1 hw
      have hr2 := runTo_ge wordB s (a + 1)
      refine sw_seq ?_
      refine sw_block ?_
      refine sw_loopw (fun nX sX δX σX => ∃ (i : Nat), (s.length - i) = nX ∧ sX = ⟨229, (.cons 0 (.val (.str s)) (.cons 5 (.own v (out.map tokV)) (.cons 6 (.val (.int .i64 (i : Int))) (.cons 8 (.val (.int .i64 (a : Int))) .nil))))⟩ ∧ δX = [] ∧ σX = .spare v 3 :: σ ∧ (a ≤ i ∧ i ≤ s.length) ∧ (runTo wordB s a = runTo wordB s i)) ?_ ?_
      · refine ⟨_, _, _, ?_, ?_, a, rfl, rfl, rfl, rfl, (⟨Nat.le_refl _, by omega⟩), (rfl)⟩
        · exact ⟨rfl, by repeat constructor⟩
        · repeat constructor
      rintro nX sX δX σX ⟨i, rfl, rfl, rfl, rfl, hi, hr⟩
      refine sw_seq ?_
      refine sw_seq ?_
      refine sw_cutk ⟨229, (.cons 0 (.val (.str s)) (.cons 5 (.own v (out.map tokV)) (.cons 6 (.val (.int .i64 (i : Int))) (.cons 8 (.val (.int .i64 (a : Int))) (.cons 150 (.val (.bool (goes wordB s i))) .nil)))))⟩ (.spare v 3 :: σ) (True) ?_ ?_
      · refine sl_region ?_
        refine sl_mv rfl rfl rfl ?_
        refine sl_mv rfl rfl rfl ?_
        refine sl_len_str rfl rfl rfl u_9 ?_
        refine sl_bin rfl rfl rfl rfl rfl ?_
        refine sl_mv rfl rfl rfl ?_
        refine sl_case_at 139 rfl (fun h1 => ?_) (fun h1 => ?_)
        · have h2 : i < s.length := by have := of_decide_eq_true h1; omega
          refine sl_guard_y rfl rfl rfl h1 ?_
          refine sl_mv rfl rfl rfl ?_
          refine sl_guard_y rfl rfl rfl h1 ?_
          refine sl_mv rfl rfl rfl ?_
          refine sl_guard_y rfl rfl rfl h1 ?_
          refine sl_index_str' rfl rfl rfl rfl u_9 (by omega) (List.getElem?_eq_getElem h2) ?_
          refine sl_guard_y rfl rfl rfl h1 ?_
          refine sl_callf rfl rfl cal_67 (xletter_ok s[i] (.spare v 3 :: σ)) ?_ ?_ ?_ (fun _ _ h => h.elim)
          · repeat constructor
          · repeat constructor
          rintro _ _ ⟨rfl, rfl⟩
          refine sl_guard_y rfl rfl rfl h1 ?_
          refine sl_mv rfl rfl rfl ?_
          refine sl_case_at 144 rfl (fun h3 => ?_) (fun h3 => ?_)
          · refine sl_guard_n rfl rfl rfl h3 ?_
            refine sl_guard_n rfl rfl rfl h3 ?_
            refine sl_guard_n rfl rfl rfl h3 ?_
            refine sl_guard_n rfl rfl rfl h3 ?_
            refine sl_guard_y rfl rfl rfl h1 ?_
            refine sl_pk_t rfl rfl rfl h3 rfl ?_
            refine sl_pk_t rfl rfl rfl h1 rfl ?_
            refine sl_set 150 (.val (.bool (goes wordB s i))) (congrArg (fun b => D.val (.bool b)) (by rw [goes_in h2]; unfold wordB; rw [show letterB s[i] = true from h3]; rfl)) ?_
            refine sl_nil ?_
            refine ⟨?_, ?_, rfl, trivial⟩
            · exact ⟨rfl, by repeat constructor⟩
            · repeat constructor
          refine sl_guard_y rfl rfl rfl h3 ?_
          refine sl_mv rfl rfl rfl ?_
          refine sl_guard_y rfl rfl rfl h3 ?_
          refine sl_mv rfl rfl rfl ?_
          refine sl_guard_y rfl rfl rfl h3 ?_
          refine sl_index_str' rfl rfl rfl rfl u_9 (by omega) (List.getElem?_eq_getElem h2) ?_
          refine sl_guard_y rfl rfl rfl h3 ?_
          refine sl_callf rfl rfl cal_68 (xdigit_ok s[i] (.spare v 3 :: σ)) ?_ ?_ ?_ (fun _ _ h => h.elim)
          · repeat constructor
          · repeat constructor
          rintro _ _ ⟨rfl, rfl⟩
          refine sl_guard_y rfl rfl rfl h1 ?_
          refine sl_pk_f rfl rfl rfl h3 rfl ?_
          refine sl_pk_t rfl rfl rfl h1 rfl ?_
          refine sl_set 150 (.val (.bool (goes wordB s i))) (congrArg (fun b => D.val (.bool b)) (by rw [goes_in h2]; unfold wordB; rw [show letterB s[i] = false from h3]; rfl)) ?_
          refine sl_nil ?_
          refine ⟨?_, ?_, rfl, trivial⟩
          · exact ⟨rfl, by repeat constructor⟩
          · repeat constructor
        refine sl_guard_n rfl rfl rfl h1 ?_
        refine sl_guard_n rfl rfl rfl h1 ?_
        refine sl_guard_n rfl rfl rfl h1 ?_
        refine sl_guard_n rfl rfl rfl h1 ?_
        refine sl_guard_n rfl rfl rfl h1 ?_
        refine sl_guard_u rfl rfl rfl ?_
        refine sl_guard_u rfl rfl rfl ?_
        refine sl_guard_u rfl rfl rfl ?_
        refine sl_guard_u rfl rfl rfl ?_
        refine sl_guard_n rfl rfl rfl h1 ?_
        refine sl_pk_f rfl rfl rfl h1 rfl ?_
        refine sl_set 150 (.val (.bool (goes wordB s i))) (congrArg (fun b => D.val (.bool b)) (goes_out (by have := of_decide_eq_false h1; omega)).symm) ?_
        refine sl_nil ?_
        refine ⟨?_, ?_, rfl, trivial⟩
        · exact ⟨rfl, by repeat constructor⟩
        · repeat constructor
      intro _
      refine sw_cond rfl (fun hgo => ?_) (fun hgo => ?_)
      · have h2 := goes_t hgo
        refine sw_skip ?_
        refine sw_block ?_
        refine sl_region ?_
        refine sl_mv rfl rfl rfl ?_
        first
          | refine sl_inc rfl rfl rfl rfl (by omega) ?_
          | refine sl_add rfl rfl rfl rfl (by constructor <;> omega) ?_
          | refine sl_bin rfl rfl rfl rfl rfl ?_
        refine sl_as rfl rfl rfl ?_
        refine sl_nil ?_
        refine ⟨_, by omega, _, _, ?_, ?_, i + 1, rfl, rfl, rfl, rfl, (⟨by omega, by omega⟩), (by rw [hr, h2.2])⟩
        · exact ⟨rfl, by repeat constructor⟩
        · repeat constructor
      have hE : runTo wordB s a = i := by rw [hr, goes_f hgo]
      rw [hE] at hr1
      refine sw_exit ?_
      refine sw_seq ?_
      refine sw_seq ?_
      refine sl_region ?_
      refine sl_mv rfl rfl rfl ?_
      refine sl_mv rfl rfl rfl ?_
      first
        | refine sl_sub_ rfl rfl rfl rfl (by constructor <;> omega) ?_
        | refine sl_bin rfl rfl rfl rfl rfl ?_
      refine sl_bin rfl rfl rfl rfl rfl ?_
      refine sl_nil ?_
      refine sw_cond rfl (fun hg2 => ?_) (fun hg2 => ?_)
      · have hg3 : 32 < i - a := by have := of_decide_eq_true hg2; omega
        have hst : tokStep s a = (noTok, 53) := by rw [step_letter hc1 hl, hE, if_pos hg3]
        rw [lex_bad hc1 hb hx1 (by rw [hst]; decide), hst] at hlex
        refine sw_seq ?_
        refine sl_region ?_
        refine sl_mv rfl rfl rfl ?_
        refine sl_as rfl rfl rfl ?_
        refine sl_as rfl rfl rfl ?_
        refine sl_as rfl rfl rfl ?_
        refine sl_nil ?_
        refine sw_ret ⟨rfl, _, _, ResD.weaks (ds' := [.val (.list []), .val (.int .i64 (a : Int)), .val (.int .i64 53)]) (res_many (ts := [2, 3, 4]) rfl (by decide) rfl) (by repeat constructor), ?_, by unfold toks; rw [if_neg hg1, ← hlex]; exact ⟨rfl, rfl⟩⟩
        repeat constructor
      have hg3 : ¬ 32 < i - a := by have := of_decide_eq_false hg2; omega
      have hst : tokStep s a = (⟨0, part s a i, a⟩, 0) := by rw [step_letter hc1 hl, hE, if_neg hg3]
      rw [lex_tok hc1 hb hx1 (by rw [hst]), hst] at hlex
      have hpl : (part s a i).length = i - a := part_len hi.2
      rw [hpl, show a + (i - a) = i by omega] at hlex
      refine sw_skip ?_
      refine sl_region ?_
      refine sl_mv rfl rfl rfl ?_
      refine sl_mv rfl rfl rfl ?_
      refine sl_mv rfl rfl rfl ?_
      refine sl_mv rfl rfl rfl ?_
      refine sl_slice_str a i rfl rfl rfl u_9 ⟨_, rfl⟩ ⟨_, rfl⟩ hi.1 hi.2 ?_
      refine sl_mv rfl rfl rfl ?_
      refine sl_bd rfl rfl (.cons rfl (.cons rfl (.cons rfl .nil))) bi_45 zd_45 rfl ?_
      refine sl_bsn ([tokV ⟨0, part s a i, a⟩]) rfl rfl (.cons rfl .nil) u_40 sz_45 zs_45 (by decide) rfl rfl rfl (SzI.get (by repeat constructor)) ?_
      refine sl_appp rfl rfl rfl rfl u_40 ⟨_, u_40, rfl⟩ el_45 (by repeat constructor) (by repeat constructor) (by simp only [List.length_map, List.length_cons, List.length_nil]; omega) ((by rw [List.map_append]; rfl : _ = (out ++ [Tok.mk 0 (part s a i) a]).map tokV)) (by repeat constructor) (fun v166 => ?_)
      refine sl_as rfl rfl rfl ?_
      refine sl_nil ?_
      refine ⟨_, by omega, _, _, ?_, ?_, n, i, out ++ [Tok.mk 0 (part s a i) a], v166, rfl, rfl, rfl, rfl, (hi.2), (by omega), (hlex), (by rw [List.length_append, List.length_singleton]; omega)⟩
      · exact ⟨rfl, by repeat constructor⟩
      · repeat constructor
    refine sw_seq ?_
    refine sl_region ?_
    refine sl_mv rfl rfl rfl ?_
    refine sl_callf rfl rfl cal_68 (xdigit_ok s[a] (.spare v 3 :: σ)) ?_ ?_ ?_ (fun _ _ h => h.elim)
    · repeat constructor
    · repeat constructor
    rintro _ _ ⟨rfl, rfl⟩
    refine sl_as rfl rfl rfl ?_
    refine sl_nil ?_
    refine sw_cond rfl (fun hd => ?_) (fun hd => ?_)
    · have hr1 := runTo_go hc1 hd
      have hr2 := runTo_ge digitB s (a + 1)
      have had := run_digits s a
      refine sw_seq ?_
      refine sl_region ?_
      refine sl_as rfl rfl rfl ?_
      refine sl_nil ?_
      refine sw_seq ?_
      refine sl_region ?_
      refine sl_as rfl rfl rfl ?_
      refine sl_nil ?_
      refine sw_seq ?_
      refine sw_block ?_
      refine sw_loopw (fun nX sX δX σX => ∃ (i N : Nat) (gr : Bool), (s.length - i) = nX ∧ sX = ⟨229, (.cons 0 (.val (.str s)) (.cons 5 (.own v (out.map tokV)) (.cons 6 (.val (.int .i64 (i : Int))) (.cons 7 (.val (byteV s[a])) (.cons 8 (.val (.int .i64 (a : Int))) (.cons 9 (.val (u64V N)) (.cons 10 (.val (.bool gr)) .nil)))))))⟩ ∧ δX = [] ∧ σX = .spare v 3 :: σ ∧ (a ≤ i ∧ i ≤ s.length) ∧ (runTo digitB s a = runTo digitB s i) ∧ (N ≤ 9223372036854775809) ∧ (gr = true → 922337203685477580 < N ∧ 9223372036854775807 < decVal 0 (part s a i)) ∧ (gr = false → N = decVal 0 (part s a i))) ?_ ?_
      · refine ⟨_, _, _, ?_, ?_, a, 0, false, rfl, rfl, rfl, rfl, (⟨Nat.le_refl _, by omega⟩), (rfl), (by omega), (fun h => by cases h), (fun _ => by rw [part_nil]; rfl)⟩
        · exact ⟨rfl, by repeat constructor⟩
        · repeat constructor
      rintro nX sX δX σX ⟨i, N, gr, rfl, rfl, rfl, rfl, hi, hr, hN, hgr1, hgr2⟩
      refine sw_seq ?_
      refine sw_seq ?_
      refine sw_cutk ⟨229, (.cons 0 (.val (.str s)) (.cons 5 (.own v (out.map tokV)) (.cons 6 (.val (.int .i64 (i : Int))) (.cons 7 (.val (byteV s[a])) (.cons 8 (.val (.int .i64 (a : Int))) (.cons 9 (.val (u64V N)) (.cons 10 (.val (.bool gr)) (.cons 179 (.val (.bool (goes digitB s i))) .nil))))))))⟩ (.spare v 3 :: σ) (True) ?_ ?_
      · refine sl_region ?_
        refine sl_mv rfl rfl rfl ?_
        refine sl_mv rfl rfl rfl ?_
        refine sl_len_str rfl rfl rfl u_9 ?_
        refine sl_bin rfl rfl rfl rfl rfl ?_
        refine sl_mv rfl rfl rfl ?_
        refine sl_case_at 174 rfl (fun h1 => ?_) (fun h1 => ?_)
        · have h2 : i < s.length := by have := of_decide_eq_true h1; omega
          refine sl_guard_y rfl rfl rfl h1 ?_
          refine sl_mv rfl rfl rfl ?_
          refine sl_guard_y rfl rfl rfl h1 ?_
          refine sl_mv rfl rfl rfl ?_
          refine sl_guard_y rfl rfl rfl h1 ?_
          refine sl_index_str' rfl rfl rfl rfl u_9 (by omega) (List.getElem?_eq_getElem h2) ?_
          refine sl_guard_y rfl rfl rfl h1 ?_
          refine sl_callf rfl rfl cal_68 (xdigit_ok s[i] (.spare v 3 :: σ)) ?_ ?_ ?_ (fun _ _ h => h.elim)
          · repeat constructor
          · repeat constructor
          rintro _ _ ⟨rfl, rfl⟩
          refine sl_pk_t rfl rfl rfl h1 rfl ?_
          refine sl_set 179 (.val (.bool (goes digitB s i))) (congrArg (fun b => D.val (.bool b)) (goes_in h2).symm) ?_
          refine sl_nil ?_
          refine ⟨?_, ?_, rfl, trivial⟩
          · exact ⟨rfl, by repeat constructor⟩
          · repeat constructor
        refine sl_guard_n rfl rfl rfl h1 ?_
        refine sl_guard_n rfl rfl rfl h1 ?_
        refine sl_guard_n rfl rfl rfl h1 ?_
        refine sl_guard_n rfl rfl rfl h1 ?_
        refine sl_pk_f rfl rfl rfl h1 rfl ?_
        refine sl_set 179 (.val (.bool (goes digitB s i))) (congrArg (fun b => D.val (.bool b)) (goes_out (by have := of_decide_eq_false h1; omega)).symm) ?_
        refine sl_nil ?_
        refine ⟨?_, ?_, rfl, trivial⟩
        · exact ⟨rfl, by repeat constructor⟩
        · repeat constructor
      intro _
      refine sw_cond rfl (fun hgo => ?_) (fun hgo => ?_)
      · have h2 := goes_t hgo
        have h3 : digitB s[i] = true := (goes_in h2.1).symm.trans hgo
        have h4 := digit_range h3
        have h5 : decVal 0 (part s a (i + 1)) = 10 * decVal 0 (part s a i) + (s[i].toNat - 48) := by rw [part_snoc hi.1 h2.1, decVal_snoc]
        obtain ⟨d, hdd⟩ : ∃ d : Nat, d = s[i].toNat - 48 := ⟨_, rfl⟩
        rw [← hdd] at h5
        obtain ⟨w, hw⟩ : ∃ w : Nat, w = decVal 0 (part s a i) := ⟨_, rfl⟩
        rw [← hw] at h5 hgr1 hgr2
        refine sw_skip ?_
        refine sw_block ?_
        refine sw_seq ?_
        refine sw_seq ?_
        refine sl_region ?_
        refine sl_mv rfl rfl rfl ?_
        refine sl_bin rfl rfl rfl rfl rfl ?_
        refine sl_nil ?_
        refine sw_cond rfl (fun hbig => ?_) (fun hbig => ?_)
        · have hb1 : 922337203685477580 < N := by have := of_decide_eq_true hbig; omega
          refine sl_region ?_
          refine sl_as rfl rfl rfl ?_
          refine sl_nil ?_
          refine sl_region ?_
          refine sl_mv rfl rfl rfl ?_
          first
            | refine sl_inc rfl rfl rfl rfl (by omega) ?_
            | refine sl_add rfl rfl rfl rfl (by constructor <;> omega) ?_
            | refine sl_bin rfl rfl rfl rfl rfl ?_
          refine sl_as rfl rfl rfl ?_
          refine sl_nil ?_
          refine ⟨_, by omega, _, _, ?_, ?_, i + 1, N, true, rfl, rfl, rfl, rfl, (⟨by omega, by omega⟩), (by rw [hr, h2.2]), (hN), (fun _ => ⟨hb1, great_more h5 hb1 hgr1 hgr2⟩), (fun h => by cases h)⟩
          · exact ⟨rfl, by repeat constructor⟩
          · repeat constructor
        have hb1 : N ≤ 922337203685477580 := by have := of_decide_eq_false hbig; omega
        have hgf : gr = false := great_not hb1 hgr1
        refine sl_region ?_
        refine sl_mv rfl rfl rfl ?_
        refine sl_bin rfl rfl rfl rfl rfl ?_
        refine sl_set 183 (.val (.int .u64 ((10 * N : Nat) : Int))) (congrArg (fun z => D.val (.int .u64 z)) (by rw [wrap_u64 (by omega) (by omega)]; omega)) ?_
        refine sl_mv rfl rfl rfl ?_
        refine sl_mv rfl rfl rfl ?_
        refine sl_index_str' rfl rfl rfl rfl u_9 (by omega) (List.getElem?_eq_getElem h2.1) ?_
        refine sl_bin rfl rfl rfl rfl rfl ?_
        refine sl_set 187 (.val (.int .u8 (d : Int))) (congrArg (fun z => D.val (.int .u8 z)) (by rw [wrap_u8 (by omega) (by omega)]; omega)) ?_
        refine sl_conv_int rfl rfl rfl is_5 u_37 ?_
        refine sl_set 188 (.val (.int .u64 (d : Int))) (congrArg (fun z => D.val (.int .u64 z)) (wrapped_u64 d (by omega))) ?_
        refine sl_bin rfl rfl rfl rfl rfl ?_
        refine sl_set 189 (.val (u64V (10 * N + d))) (congrArg (fun z => D.val (.int .u64 z)) (by rw [wrap_u64 (by omega) (by omega)]; omega)) ?_
        refine sl_as rfl rfl rfl ?_
        refine sl_nil ?_
        refine sl_region ?_
        refine sl_mv rfl rfl rfl ?_
        first
          | refine sl_inc rfl rfl rfl rfl (by omega) ?_
          | refine sl_add rfl rfl rfl rfl (by constructor <;> omega) ?_
          | refine sl_bin rfl rfl rfl rfl rfl ?_
        refine sl_as rfl rfl rfl ?_
        refine sl_nil ?_
        refine ⟨_, by omega, _, _, ?_, ?_, i + 1, 10 * N + d, gr, rfl, rfl, rfl, rfl, (⟨by omega, by omega⟩), (by rw [hr, h2.2]), (by omega), (fun h => by rw [hgf] at h; cases h), (fun _ => by rw [h5, hgr2 hgf])⟩
        · exact ⟨rfl, by repeat constructor⟩
        · repeat constructor
      have hE : runTo digitB s a = i := by rw [hr, goes_f hgo]
      rw [hE] at hr1
      have hst := step_digit2 hc1 hl hd hE
      have hpl : (part s a i).length = i - a := part_len hi.2
      have hbigs : (gr || decide (N > 9223372036854775807)) = decide (maxI64 < decVal 0 (part s a i)) := by
        rw [maxI64_eq]
        cases gr with
        | true => rw [decide_eq_true (hgr1 rfl).2]; rfl
        | false => rw [← hgr2 rfl]; rfl
      refine sw_exit ?_
      refine sw_seq ?_
      refine sw_seq ?_
      refine sw_cutk ⟨229, (.cons 0 (.val (.str s)) (.cons 5 (.own v (out.map tokV)) (.cons 6 (.val (.int .i64 (i : Int))) (.cons 7 (.val (byteV s[a])) (.cons 8 (.val (.int .i64 (a : Int))) (.cons 196 (.val (.bool (decide (maxI64 < decVal 0 (part s a i))))) .nil))))))⟩ (.spare v 3 :: σ) (True) ?_ ?_
      · refine sl_region ?_
        refine sl_mv rfl rfl rfl ?_
        refine sl_mv rfl rfl rfl ?_
        refine sl_case_at 193 rfl (fun h1 => ?_) (fun h1 => ?_)
        · have h2 : gr = true := h1
          refine sl_guard_n rfl rfl rfl h1 ?_
          refine sl_guard_n rfl rfl rfl h1 ?_
          refine sl_pk_t rfl rfl rfl h1 rfl ?_
          refine sl_set 196 (.val (.bool (decide (maxI64 < decVal 0 (part s a i))))) (congrArg (fun b => D.val (.bool b)) (by rw [← hbigs, h2]; rfl)) ?_
          refine sl_nil ?_
          refine ⟨?_, ?_, rfl, trivial⟩
          · exact ⟨rfl, by repeat constructor⟩
          · repeat constructor
        have h2 : gr = false := h1
        refine sl_guard_y rfl rfl rfl h1 ?_
        refine sl_mv rfl rfl rfl ?_
        refine sl_guard_y rfl rfl rfl h1 ?_
        refine sl_bin rfl rfl rfl rfl rfl ?_
        refine sl_pk_f rfl rfl rfl h1 rfl ?_
        refine sl_set 196 (.val (.bool (decide (maxI64 < decVal 0 (part s a i))))) (congrArg (fun b => D.val (.bool b)) (by rw [← hbigs, h2, Bool.false_or]; exact decide_eq_decide.mpr (by constructor <;> intro h <;> omega))) ?_
        refine sl_nil ?_
        refine ⟨?_, ?_, rfl, trivial⟩
        · exact ⟨rfl, by repeat constructor⟩
        · repeat constructor
      intro _
      refine sw_cond rfl (fun hmx => ?_) (fun hmx => ?_)
      · rw [if_pos (of_decide_eq_true hmx)] at hst
        rw [lex_bad hc1 hb hx1 (by rw [hst]; decide), hst] at hlex
        refine sw_seq ?_
        refine sl_region ?_
        refine sl_mv rfl rfl rfl ?_
        refine sl_as rfl rfl rfl ?_
        refine sl_as rfl rfl rfl ?_
        refine sl_as rfl rfl rfl ?_
        refine sl_nil ?_
        refine sw_ret ⟨rfl, _, _, ResD.weaks (ds' := [.val (.list []), .val (.int .i64 (a : Int)), .val (.int .i64 53)]) (res_many (ts := [2, 3, 4]) rfl (by decide) rfl) (by repeat constructor), ?_, by unfold toks; rw [if_neg hg1, ← hlex]; exact ⟨rfl, rfl⟩⟩
        repeat constructor
      rw [if_neg (of_decide_eq_false hmx)] at hst
      refine sw_skip ?_
      refine sw_seq ?_
      refine sw_seq ?_
      refine sw_cutk ⟨229, (.cons 0 (.val (.str s)) (.cons 5 (.own v (out.map tokV)) (.cons 6 (.val (.int .i64 (i : Int))) (.cons 8 (.val (.int .i64 (a : Int))) (.cons 217 (.val (.bool (decide (goes letterB s i = true ∨ s[a] = 48 ∧ 1 < i - a)))) .nil)))))⟩ (.spare v 3 :: σ) (True) ?_ ?_
      · refine sl_region ?_
        refine sl_mv rfl rfl rfl ?_
        refine sl_mv rfl rfl rfl ?_
        refine sl_len_str rfl rfl rfl u_9 ?_
        refine sl_bin rfl rfl rfl rfl rfl ?_
        refine sl_mv rfl rfl rfl ?_
        refine sl_case_at 202 rfl (fun h1 => ?_) (fun h1 => ?_)
        · have h2 : i < s.length := by have := of_decide_eq_true h1; omega
          refine sl_guard_y rfl rfl rfl h1 ?_
          refine sl_mv rfl rfl rfl ?_
          refine sl_guard_y rfl rfl rfl h1 ?_
          refine sl_mv rfl rfl rfl ?_
          refine sl_guard_y rfl rfl rfl h1 ?_
          refine sl_index_str' rfl rfl rfl rfl u_9 (by omega) (List.getElem?_eq_getElem h2) ?_
          refine sl_guard_y rfl rfl rfl h1 ?_
          refine sl_callf rfl rfl cal_67 (xletter_ok s[i] (.spare v 3 :: σ)) ?_ ?_ ?_ (fun _ _ h => h.elim)
          · repeat constructor
          · repeat constructor
          rintro _ _ ⟨rfl, rfl⟩
          refine sl_set 206 (.val (.bool (goes letterB s i))) (congrArg (fun b => D.val (.bool b)) (goes_in h2).symm) ?_
          refine sl_pk_t rfl rfl rfl h1 rfl ?_
          refine sl_mv rfl rfl rfl ?_
          refine sl_case_at 208 rfl (fun h9 => ?_) (fun h9 => ?_)
          · refine sl_guard_n rfl rfl rfl h9 ?_
            refine sl_guard_n rfl rfl rfl h9 ?_
            refine sl_guard_n rfl rfl rfl h9 ?_
            refine sl_guard_u rfl rfl rfl ?_
            refine sl_guard_u rfl rfl rfl ?_
            refine sl_guard_u rfl rfl rfl ?_
            refine sl_guard_u rfl rfl rfl ?_
            refine sl_guard_n rfl rfl rfl h9 ?_
            refine sl_pk_t rfl rfl rfl h9 rfl ?_
            refine sl_set 217 (.val (.bool (decide (goes letterB s i = true ∨ s[a] = 48 ∧ 1 < i - a)))) (dec_tt (.inl h9)) ?_
            refine sl_nil ?_
            refine ⟨?_, ?_, rfl, trivial⟩
            · exact ⟨rfl, by repeat constructor⟩
            · repeat constructor
          refine sl_guard_y rfl rfl rfl h9 ?_
          refine sl_mv rfl rfl rfl ?_
          refine sl_guard_y rfl rfl rfl h9 ?_
          refine sl_bin rfl rfl rfl rfl rfl ?_
          refine sl_guard_y rfl rfl rfl h9 ?_
          refine sl_mv rfl rfl rfl ?_
          refine sl_case_at 211 rfl (fun h8 => ?_) (fun h8 => ?_)
          · have h48 : s[a] = 48 := byte_is (d := 48) h8
            refine sl_guard_y rfl rfl rfl h8 ?_
            refine sl_mv rfl rfl rfl ?_
            refine sl_guard_y rfl rfl rfl h8 ?_
            refine sl_mv rfl rfl rfl ?_
            refine sl_guard_y rfl rfl rfl h8 ?_
            first
              | refine sl_sub_ rfl rfl rfl rfl (by constructor <;> omega) ?_
              | refine sl_bin rfl rfl rfl rfl rfl ?_
            refine sl_guard_y rfl rfl rfl h8 ?_
            refine sl_bin rfl rfl rfl rfl rfl ?_
            refine sl_guard_y rfl rfl rfl h9 ?_
            refine sl_pk_t rfl rfl rfl h8 rfl ?_
            refine sl_pk_f rfl rfl rfl h9 rfl ?_
            refine sl_set 217 (.val (.bool (decide (goes letterB s i = true ∨ s[a] = 48 ∧ 1 < i - a)))) (congrArg (fun b => D.val (.bool b)) (decide_eq_decide.mpr ⟨fun h => .inr ⟨h48, by omega⟩, fun h => great_or h9 h⟩)) ?_
            refine sl_nil ?_
            refine ⟨?_, ?_, rfl, trivial⟩
            · exact ⟨rfl, by repeat constructor⟩
            · repeat constructor
          have h48 : s[a] ≠ 48 := byte_isnt (d := 48) h8
          refine sl_guard_n rfl rfl rfl h8 ?_
          refine sl_guard_n rfl rfl rfl h8 ?_
          refine sl_guard_n rfl rfl rfl h8 ?_
          refine sl_guard_n rfl rfl rfl h8 ?_
          refine sl_guard_y rfl rfl rfl h9 ?_
          refine sl_pk_f rfl rfl rfl h8 rfl ?_
          refine sl_pk_f rfl rfl rfl h9 rfl ?_
          refine sl_set 217 (.val (.bool (decide (goes letterB s i = true ∨ s[a] = 48 ∧ 1 < i - a)))) (dec_ff (fun h => by rw [show goes letterB s i = false from h9] at h; exact h48 (h.resolve_left (by simp)).1)) ?_
          refine sl_nil ?_
          refine ⟨?_, ?_, rfl, trivial⟩
          · exact ⟨rfl, by repeat constructor⟩
          · repeat constructor
        have h2 : goes letterB s i = false := goes_out (by have := of_decide_eq_false h1; omega)
        refine sl_guard_n rfl rfl rfl h1 ?_
        refine sl_guard_n rfl rfl rfl h1 ?_
        refine sl_guard_n rfl rfl rfl h1 ?_
        refine sl_guard_n rfl rfl rfl h1 ?_
        refine sl_pk_f rfl rfl rfl h1 rfl ?_
        refine sl_set 207 (.val (.bool (goes letterB s i))) (congrArg (fun b => D.val (.bool b)) h2.symm) ?_
        refine sl_mv rfl rfl rfl ?_
        refine sl_case_at 208 rfl (fun h9 => ?_) (fun h9 => ?_)
        · refine sl_guard_n rfl rfl rfl h9 ?_
          refine sl_guard_n rfl rfl rfl h9 ?_
          refine sl_guard_n rfl rfl rfl h9 ?_
          refine sl_guard_u rfl rfl rfl ?_
          refine sl_guard_u rfl rfl rfl ?_
          refine sl_guard_u rfl rfl rfl ?_
          refine sl_guard_u rfl rfl rfl ?_
          refine sl_guard_n rfl rfl rfl h9 ?_
          refine sl_pk_t rfl rfl rfl h9 rfl ?_
          refine sl_set 217 (.val (.bool (decide (goes letterB s i = true ∨ s[a] = 48 ∧ 1 < i - a)))) (dec_tt (.inl h9)) ?_
          refine sl_nil ?_
          refine ⟨?_, ?_, rfl, trivial⟩
          · exact ⟨rfl, by repeat constructor⟩
          · repeat constructor
        refine sl_guard_y rfl rfl rfl h9 ?_
        refine sl_mv rfl rfl rfl ?_
        refine sl_guard_y rfl rfl rfl h9 ?_
        refine sl_bin rfl rfl rfl rfl rfl ?_
        refine sl_guard_y rfl rfl rfl h9 ?_
        refine sl_mv rfl rfl rfl ?_
        refine sl_case_at 211 rfl (fun h8 => ?_) (fun h8 => ?_)
        · have h48 : s[a] = 48 := byte_is (d := 48) h8
          refine sl_guard_y rfl rfl rfl h8 ?_
          refine sl_mv rfl rfl rfl ?_
          refine sl_guard_y rfl rfl rfl h8 ?_
          refine sl_mv rfl rfl rfl ?_
          refine sl_guard_y rfl rfl rfl h8 ?_
          first
            | refine sl_sub_ rfl rfl rfl rfl (by constructor <;> omega) ?_
            | refine sl_bin rfl rfl rfl rfl rfl ?_
          refine sl_guard_y rfl rfl rfl h8 ?_
          refine sl_bin rfl rfl rfl rfl rfl ?_
          refine sl_guard_y rfl rfl rfl h9 ?_
          refine sl_pk_t rfl rfl rfl h8 rfl ?_
          refine sl_pk_f rfl rfl rfl h9 rfl ?_
          refine sl_set 217 (.val (.bool (decide (goes letterB s i = true ∨ s[a] = 48 ∧ 1 < i - a)))) (congrArg (fun b => D.val (.bool b)) (decide_eq_decide.mpr ⟨fun h => .inr ⟨h48, by omega⟩, fun h => great_or h9 h⟩)) ?_
          refine sl_nil ?_
          refine ⟨?_, ?_, rfl, trivial⟩
          · exact ⟨rfl, by repeat constructor⟩
          · repeat constructor
        have h48 : s[a] ≠ 48 := byte_isnt (d := 48) h8
        refine sl_guard_n rfl rfl rfl h8 ?_
        refine sl_guard_n rfl rfl rfl h8 ?_
        refine sl_guard_n rfl rfl rfl h8 ?_
        refine sl_guard_n rfl rfl rfl h8 ?_
        refine sl_guard_y rfl rfl rfl h9 ?_
        refine sl_pk_f rfl rfl rfl h8 rfl ?_
        refine sl_pk_f rfl rfl rfl h9 rfl ?_
        refine sl_set 217 (.val (.bool (decide (goes letterB s i = true ∨ s[a] = 48 ∧ 1 < i - a)))) (dec_ff (fun h => by rw [show goes letterB s i = false from h9] at h; exact h48 (h.resolve_left (by simp)).1)) ?_
        refine sl_nil ?_
        refine ⟨?_, ?_, rfl, trivial⟩
        · exact ⟨rfl, by repeat constructor⟩
        · repeat constructor
      intro _
      refine sw_cond rfl (fun hlz => ?_) (fun hlz => ?_)
      · rw [if_pos (of_decide_eq_true hlz)] at hst
        rw [lex_bad hc1 hb hx1 (by rw [hst]; decide), hst] at hlex
        refine sw_seq ?_
        refine sl_region ?_
        refine sl_mv rfl rfl rfl ?_
        refine sl_as rfl rfl rfl ?_
        refine sl_as rfl rfl rfl ?_
        refine sl_as rfl rfl rfl ?_
        refine sl_nil ?_
        refine sw_ret ⟨rfl, _, _, ResD.weaks (ds' := [.val (.list []), .val (.int .i64 (a : Int)), .val (.int .i64 50)]) (res_many (ts := [2, 3, 4]) rfl (by decide) rfl) (by repeat constructor), ?_, by unfold toks; rw [if_neg hg1, ← hlex]; exact ⟨rfl, rfl⟩⟩
        repeat constructor
      rw [if_neg (of_decide_eq_false hlz)] at hst
      rw [lex_tok hc1 hb hx1 (by rw [hst]), hst] at hlex
      rw [hpl, show a + (i - a) = i by omega] at hlex
      refine sw_skip ?_
      refine sl_region ?_
      refine sl_mv rfl rfl rfl ?_
      refine sl_mv rfl rfl rfl ?_
      refine sl_mv rfl rfl rfl ?_
      refine sl_mv rfl rfl rfl ?_
      refine sl_slice_str a i rfl rfl rfl u_9 ⟨_, rfl⟩ ⟨_, rfl⟩ hi.1 hi.2 ?_
      refine sl_mv rfl rfl rfl ?_
      refine sl_bd rfl rfl (.cons rfl (.cons rfl (.cons rfl .nil))) bi_45 zd_45 rfl ?_
      refine sl_bsn ([tokV ⟨1, part s a i, a⟩]) rfl rfl (.cons rfl .nil) u_40 sz_45 zs_45 (by decide) rfl rfl rfl (SzI.get (by repeat constructor)) ?_
      refine sl_appp rfl rfl rfl rfl u_40 ⟨_, u_40, rfl⟩ el_45 (by repeat constructor) (by repeat constructor) (by simp only [List.length_map, List.length_cons, List.length_nil]; omega) ((by rw [List.map_append]; rfl : _ = (out ++ [Tok.mk 1 (part s a i) a]).map tokV)) (by repeat constructor) (fun v227 => ?_)
      refine sl_as rfl rfl rfl ?_
      refine sl_nil ?_
      refine ⟨_, by omega, _, _, ?_, ?_, n, i, out ++ [Tok.mk 1 (part s a i) a], v227, rfl, rfl, rfl, rfl, (hi.2), (by omega), (hlex), (by rw [List.length_append, List.length_singleton]; omega)⟩
      · exact ⟨rfl, by repeat constructor⟩
      · repeat constructor
    refine sw_seq ?_
    refine sl_region ?_
    refine sl_mv rfl rfl rfl ?_
    refine sl_mv rfl rfl rfl ?_
    refine sl_mv rfl rfl rfl ?_
    first
      | refine sl_inc rfl rfl rfl rfl (by omega) ?_
      | refine sl_add rfl rfl rfl rfl (by constructor <;> omega) ?_
      | refine sl_bin rfl rfl rfl rfl rfl ?_
    refine sl_slice_str a (a + 1) rfl rfl rfl u_9 ⟨_, rfl⟩ ⟨_, rfl⟩ (by omega) (by omega) ?_
    refine sl_set 27 (.val (.str ((s.drop a).take 1))) (congrArg (fun k => D.val (.str ((s.drop a).take k))) (by omega)) ?_
    refine sl_as rfl rfl rfl ?_
    refine sl_nil ?_
    refine sw_seq ?_
    refine sw_seq ?_
    refine sw_cutk ⟨229, (.cons 0 (.val (.str s)) (.cons 5 (.own v (out.map tokV)) (.cons 6 (.val (.int .i64 (a : Int))) (.cons 7 (.val (byteV s[a])) (.cons 8 (.val (.int .i64 (a : Int))) (.cons 11 (.val (.str ((s.drop a).take 1))) (.cons 80 (.val (.bool (twoB ((s.drop a).take 2)))) .nil)))))))⟩ (.spare v 3 :: σ) (True) ?_ ?_
    · refine sl_region ?_
      refine sl_mv rfl rfl rfl ?_
      first
        | refine sl_inc rfl rfl rfl rfl (by omega) ?_
        | refine sl_add rfl rfl rfl rfl (by constructor <;> omega) ?_
        | refine sl_bin rfl rfl rfl rfl rfl ?_
      refine sl_mv rfl rfl rfl ?_
      refine sl_len_str rfl rfl rfl u_9 ?_
      refine sl_bin rfl rfl rfl rfl rfl ?_
      refine sl_mv rfl rfl rfl ?_
      refine sl_case_at 33 rfl (fun hg27 => ?_) (fun hg27 => ?_)
      · refine sl_guard_y rfl rfl rfl hg27 ?_
        refine sl_mv rfl rfl rfl ?_
        refine sl_guard_y rfl rfl rfl hg27 ?_
        refine sl_mv rfl rfl rfl ?_
        refine sl_guard_y rfl rfl rfl hg27 ?_
        refine sl_mv rfl rfl rfl ?_
        refine sl_guard_y rfl rfl rfl hg27 ?_
        first
          | refine sl_inc rfl rfl rfl rfl (by omega) ?_
          | refine sl_add rfl rfl rfl rfl (by constructor <;> omega) ?_
          | refine sl_bin rfl rfl rfl rfl rfl ?_
        refine sl_guard_y rfl rfl rfl hg27 ?_
        refine sl_slice_str a (a + 2) rfl rfl rfl u_9 ⟨_, rfl⟩ ⟨_, rfl⟩ (by omega) (by simp only [decide_eq_true_eq] at *; omega) ?_
        refine sl_guard_y rfl rfl rfl hg27 ?_
        refine sl_str rfl rfl rfl rfl rfl ?_
        refine sl_guard_y rfl rfl rfl hg27 ?_
        refine sl_mv rfl rfl rfl ?_
        refine sl_case_at 40 rfl (fun hg28 => ?_) (fun hg28 => ?_)
        · refine sl_guard_n rfl rfl rfl hg28 ?_
          refine sl_guard_n rfl rfl rfl hg28 ?_
          refine sl_guard_n rfl rfl rfl hg28 ?_
          refine sl_guard_n rfl rfl rfl hg28 ?_
          refine sl_guard_n rfl rfl rfl hg28 ?_
          refine sl_guard_n rfl rfl rfl hg28 ?_
          refine sl_guard_y rfl rfl rfl hg27 ?_
          refine sl_pk_t rfl rfl rfl hg28 rfl ?_
          refine sl_guard_y rfl rfl rfl hg27 ?_
          refine sl_mv rfl rfl rfl ?_
          refine sl_guard_n rfl rfl rfl (rfl) ?_
          refine sl_guard_n rfl rfl rfl (rfl) ?_
          refine sl_guard_n rfl rfl rfl (rfl) ?_
          refine sl_guard_n rfl rfl rfl (rfl) ?_
          refine sl_guard_n rfl rfl rfl (rfl) ?_
          refine sl_guard_n rfl rfl rfl (rfl) ?_
          refine sl_guard_y rfl rfl rfl hg27 ?_
          refine sl_pk_t rfl rfl rfl (rfl) rfl ?_
          refine sl_guard_y rfl rfl rfl hg27 ?_
          refine sl_mv rfl rfl rfl ?_
          refine sl_guard_n rfl rfl rfl (rfl) ?_
          refine sl_guard_n rfl rfl rfl (rfl) ?_
          refine sl_guard_n rfl rfl rfl (rfl) ?_
          refine sl_guard_n rfl rfl rfl (rfl) ?_
          refine sl_guard_n rfl rfl rfl (rfl) ?_
          refine sl_guard_n rfl rfl rfl (rfl) ?_
          refine sl_guard_y rfl rfl rfl hg27 ?_
          refine sl_pk_t rfl rfl rfl (rfl) rfl ?_
          refine sl_guard_y rfl rfl rfl hg27 ?_
          refine sl_mv rfl rfl rfl ?_
          refine sl_guard_n rfl rfl rfl (rfl) ?_
          refine sl_guard_n rfl rfl rfl (rfl) ?_
          refine sl_guard_n rfl rfl rfl (rfl) ?_
          refine sl_guard_n rfl rfl rfl (rfl) ?_
          refine sl_guard_n rfl rfl rfl (rfl) ?_
          refine sl_guard_n rfl rfl rfl (rfl) ?_
          refine sl_guard_y rfl rfl rfl hg27 ?_
          refine sl_pk_t rfl rfl rfl (rfl) rfl ?_
          refine sl_guard_y rfl rfl rfl hg27 ?_
          refine sl_mv rfl rfl rfl ?_
          refine sl_guard_n rfl rfl rfl (rfl) ?_
          refine sl_guard_n rfl rfl rfl (rfl) ?_
          refine sl_guard_n rfl rfl rfl (rfl) ?_
          refine sl_guard_n rfl rfl rfl (rfl) ?_
          refine sl_guard_n rfl rfl rfl (rfl) ?_
          refine sl_guard_n rfl rfl rfl (rfl) ?_
          refine sl_guard_y rfl rfl rfl hg27 ?_
          refine sl_pk_t rfl rfl rfl (rfl) rfl ?_
          refine sl_pk_t rfl rfl rfl hg27 rfl ?_
          refine sl_set 80 (.val (.bool (twoB ((s.drop a).take 2)))) (congrArg (fun b => D.val (.bool b)) (by have e2 : a + 2 - a = 2 := (by omega); clear hlex hn hout ha hb hl hd hx; first | (refine (two_short (?_)).symm; rw [List.length_drop]; simp only [decide_eq_false_iff_not] at *; omega) | (simp only [e2] at *; simp_all [twoB, sixL]; try (rw [Bool.eq_iff_iff]; simp)))) ?_
          refine sl_nil ?_
          refine ⟨?_, ?_, rfl, trivial⟩
          · exact ⟨rfl, by repeat constructor⟩
          · repeat constructor
        refine sl_guard_y rfl rfl rfl hg28 ?_
        refine sl_mv rfl rfl rfl ?_
        refine sl_guard_y rfl rfl rfl hg28 ?_
        refine sl_mv rfl rfl rfl ?_
        refine sl_guard_y rfl rfl rfl hg28 ?_
        refine sl_mv rfl rfl rfl ?_
        refine sl_guard_y rfl rfl rfl hg28 ?_
        first
          | refine sl_inc rfl rfl rfl rfl (by omega) ?_
          | refine sl_add rfl rfl rfl rfl (by constructor <;> omega) ?_
          | refine sl_bin rfl rfl rfl rfl rfl ?_
        refine sl_guard_y rfl rfl rfl hg28 ?_
        refine sl_slice_str a (a + 2) rfl rfl rfl u_9 ⟨_, rfl⟩ ⟨_, rfl⟩ (by omega) (by simp only [decide_eq_true_eq] at *; omega) ?_
        refine sl_guard_y rfl rfl rfl hg28 ?_
        refine sl_str rfl rfl rfl rfl rfl ?_
        refine sl_guard_y rfl rfl rfl hg27 ?_
        refine sl_pk_f rfl rfl rfl hg28 rfl ?_
        refine sl_guard_y rfl rfl rfl hg27 ?_
        refine sl_mv rfl rfl rfl ?_
        refine sl_case_at 48 rfl (fun hg29 => ?_) (fun hg29 => ?_)
        · refine sl_guard_n rfl rfl rfl hg29 ?_
          refine sl_guard_n rfl rfl rfl hg29 ?_
          refine sl_guard_n rfl rfl rfl hg29 ?_
          refine sl_guard_n rfl rfl rfl hg29 ?_
          refine sl_guard_n rfl rfl rfl hg29 ?_
          refine sl_guard_n rfl rfl rfl hg29 ?_
          refine sl_guard_y rfl rfl rfl hg27 ?_
          refine sl_pk_t rfl rfl rfl hg29 rfl ?_
          refine sl_guard_y rfl rfl rfl hg27 ?_
          refine sl_mv rfl rfl rfl ?_
          refine sl_guard_n rfl rfl rfl (rfl) ?_
          refine sl_guard_n rfl rfl rfl (rfl) ?_
          refine sl_guard_n rfl rfl rfl (rfl) ?_
          refine sl_guard_n rfl rfl rfl (rfl) ?_
          refine sl_guard_n rfl rfl rfl (rfl) ?_
          refine sl_guard_n rfl rfl rfl (rfl) ?_
          refine sl_guard_y rfl rfl rfl hg27 ?_
          refine sl_pk_t rfl rfl rfl (rfl) rfl ?_
          refine sl_guard_y rfl rfl rfl hg27 ?_
          refine sl_mv rfl rfl rfl ?_
          refine sl_guard_n rfl rfl rfl (rfl) ?_
          refine sl_guard_n rfl rfl rfl (rfl) ?_
          refine sl_guard_n rfl rfl rfl (rfl) ?_
          refine sl_guard_n rfl rfl rfl (rfl) ?_
          refine sl_guard_n rfl rfl rfl (rfl) ?_
          refine sl_guard_n rfl rfl rfl (rfl) ?_
          refine sl_guard_y rfl rfl rfl hg27 ?_
          refine sl_pk_t rfl rfl rfl (rfl) rfl ?_
          refine sl_guard_y rfl rfl rfl hg27 ?_
          refine sl_mv rfl rfl rfl ?_
          refine sl_guard_n rfl rfl rfl (rfl) ?_
          refine sl_guard_n rfl rfl rfl (rfl) ?_
          refine sl_guard_n rfl rfl rfl (rfl) ?_
          refine sl_guard_n rfl rfl rfl (rfl) ?_
          refine sl_guard_n rfl rfl rfl (rfl) ?_
          refine sl_guard_n rfl rfl rfl (rfl) ?_
          refine sl_guard_y rfl rfl rfl hg27 ?_
          refine sl_pk_t rfl rfl rfl (rfl) rfl ?_
          refine sl_pk_t rfl rfl rfl hg27 rfl ?_
          refine sl_set 80 (.val (.bool (twoB ((s.drop a).take 2)))) (congrArg (fun b => D.val (.bool b)) (by have e2 : a + 2 - a = 2 := (by omega); clear hlex hn hout ha hb hl hd hx; first | (refine (two_short (?_)).symm; rw [List.length_drop]; simp only [decide_eq_false_iff_not] at *; omega) | (simp only [e2] at *; simp_all [twoB, sixL]; try (rw [Bool.eq_iff_iff]; simp)))) ?_
          refine sl_nil ?_
          refine ⟨?_, ?_, rfl, trivial⟩
          · exact ⟨rfl, by repeat constructor⟩
          · repeat constructor
        refine sl_guard_y rfl rfl rfl hg29 ?_
        refine sl_mv rfl rfl rfl ?_
        refine sl_guard_y rfl rfl rfl hg29 ?_
        refine sl_mv rfl rfl rfl ?_
        refine sl_guard_y rfl rfl rfl hg29 ?_
        refine sl_mv rfl rfl rfl ?_
        refine sl_guard_y rfl rfl rfl hg29 ?_
        first
          | refine sl_inc rfl rfl rfl rfl (by omega) ?_
          | refine sl_add rfl rfl rfl rfl (by constructor <;> omega) ?_
          | refine sl_bin rfl rfl rfl rfl rfl ?_
        refine sl_guard_y rfl rfl rfl hg29 ?_
        refine sl_slice_str a (a + 2) rfl rfl rfl u_9 ⟨_, rfl⟩ ⟨_, rfl⟩ (by omega) (by simp only [decide_eq_true_eq] at *; omega) ?_
        refine sl_guard_y rfl rfl rfl hg29 ?_
        refine sl_str rfl rfl rfl rfl rfl ?_
        refine sl_guard_y rfl rfl rfl hg27 ?_
        refine sl_pk_f rfl rfl rfl hg29 rfl ?_
        refine sl_guard_y rfl rfl rfl hg27 ?_
        refine sl_mv rfl rfl rfl ?_
        refine sl_case_at 56 rfl (fun hg30 => ?_) (fun hg30 => ?_)
        · refine sl_guard_n rfl rfl rfl hg30 ?_
          refine sl_guard_n rfl rfl rfl hg30 ?_
          refine sl_guard_n rfl rfl rfl hg30 ?_
          refine sl_guard_n rfl rfl rfl hg30 ?_
          refine sl_guard_n rfl rfl rfl hg30 ?_
          refine sl_guard_n rfl rfl rfl hg30 ?_
          refine sl_guard_y rfl rfl rfl hg27 ?_
          refine sl_pk_t rfl rfl rfl hg30 rfl ?_
          refine sl_guard_y rfl rfl rfl hg27 ?_
          refine sl_mv rfl rfl rfl ?_
          refine sl_guard_n rfl rfl rfl (rfl) ?_
          refine sl_guard_n rfl rfl rfl (rfl) ?_
          refine sl_guard_n rfl rfl rfl (rfl) ?_
          refine sl_guard_n rfl rfl rfl (rfl) ?_
          refine sl_guard_n rfl rfl rfl (rfl) ?_
          refine sl_guard_n rfl rfl rfl (rfl) ?_
          refine sl_guard_y rfl rfl rfl hg27 ?_
          refine sl_pk_t rfl rfl rfl (rfl) rfl ?_
          refine sl_guard_y rfl rfl rfl hg27 ?_
          refine sl_mv rfl rfl rfl ?_
          refine sl_guard_n rfl rfl rfl (rfl) ?_
          refine sl_guard_n rfl rfl rfl (rfl) ?_
          refine sl_guard_n rfl rfl rfl (rfl) ?_
          refine sl_guard_n rfl rfl rfl (rfl) ?_
          refine sl_guard_n rfl rfl rfl (rfl) ?_
          refine sl_guard_n rfl rfl rfl (rfl) ?_
          refine sl_guard_y rfl rfl rfl hg27 ?_
          refine sl_pk_t rfl rfl rfl (rfl) rfl ?_
          refine sl_pk_t rfl rfl rfl hg27 rfl ?_
          refine sl_set 80 (.val (.bool (twoB ((s.drop a).take 2)))) (congrArg (fun b => D.val (.bool b)) (by have e2 : a + 2 - a = 2 := (by omega); clear hlex hn hout ha hb hl hd hx; first | (refine (two_short (?_)).symm; rw [List.length_drop]; simp only [decide_eq_false_iff_not] at *; omega) | (simp only [e2] at *; simp_all [twoB, sixL]; try (rw [Bool.eq_iff_iff]; simp)))) ?_
          refine sl_nil ?_
          refine ⟨?_, ?_, rfl, trivial⟩
          · exact ⟨rfl, by repeat constructor⟩
          · repeat constructor
        refine sl_guard_y rfl rfl rfl hg30 ?_
        refine sl_mv rfl rfl rfl ?_
        refine sl_guard_y rfl rfl rfl hg30 ?_
        refine sl_mv rfl rfl rfl ?_
        refine sl_guard_y rfl rfl rfl hg30 ?_
        refine sl_mv rfl rfl rfl ?_
        refine sl_guard_y rfl rfl rfl hg30 ?_
        first
          | refine sl_inc rfl rfl rfl rfl (by omega) ?_
          | refine sl_add rfl rfl rfl rfl (by constructor <;> omega) ?_
          | refine sl_bin rfl rfl rfl rfl rfl ?_
        refine sl_guard_y rfl rfl rfl hg30 ?_
        refine sl_slice_str a (a + 2) rfl rfl rfl u_9 ⟨_, rfl⟩ ⟨_, rfl⟩ (by omega) (by simp only [decide_eq_true_eq] at *; omega) ?_
        refine sl_guard_y rfl rfl rfl hg30 ?_
        refine sl_str rfl rfl rfl rfl rfl ?_
        refine sl_guard_y rfl rfl rfl hg27 ?_
        refine sl_pk_f rfl rfl rfl hg30 rfl ?_
        refine sl_guard_y rfl rfl rfl hg27 ?_
        refine sl_mv rfl rfl rfl ?_
        refine sl_case_at 64 rfl (fun hg31 => ?_) (fun hg31 => ?_)
        · refine sl_guard_n rfl rfl rfl hg31 ?_
          refine sl_guard_n rfl rfl rfl hg31 ?_
          refine sl_guard_n rfl rfl rfl hg31 ?_
          refine sl_guard_n rfl rfl rfl hg31 ?_
          refine sl_guard_n rfl rfl rfl hg31 ?_
          refine sl_guard_n rfl rfl rfl hg31 ?_
          refine sl_guard_y rfl rfl rfl hg27 ?_
          refine sl_pk_t rfl rfl rfl hg31 rfl ?_
          refine sl_guard_y rfl rfl rfl hg27 ?_
          refine sl_mv rfl rfl rfl ?_
          refine sl_guard_n rfl rfl rfl (rfl) ?_
          refine sl_guard_n rfl rfl rfl (rfl) ?_
          refine sl_guard_n rfl rfl rfl (rfl) ?_
          refine sl_guard_n rfl rfl rfl (rfl) ?_
          refine sl_guard_n rfl rfl rfl (rfl) ?_
          refine sl_guard_n rfl rfl rfl (rfl) ?_
          refine sl_guard_y rfl rfl rfl hg27 ?_
          refine sl_pk_t rfl rfl rfl (rfl) rfl ?_
          refine sl_pk_t rfl rfl rfl hg27 rfl ?_
          refine sl_set 80 (.val (.bool (twoB ((s.drop a).take 2)))) (congrArg (fun b => D.val (.bool b)) (by have e2 : a + 2 - a = 2 := (by omega); clear hlex hn hout ha hb hl hd hx; first | (refine (two_short (?_)).symm; rw [List.length_drop]; simp only [decide_eq_false_iff_not] at *; omega) | (simp only [e2] at *; simp_all [twoB, sixL]; try (rw [Bool.eq_iff_iff]; simp)))) ?_
          refine sl_nil ?_
          refine ⟨?_, ?_, rfl, trivial⟩
          · exact ⟨rfl, by repeat constructor⟩
          · repeat constructor
        refine sl_guard_y rfl rfl rfl hg31 ?_
        refine sl_mv rfl rfl rfl ?_
        refine sl_guard_y rfl rfl rfl hg31 ?_
        refine sl_mv rfl rfl rfl ?_
        refine sl_guard_y rfl rfl rfl hg31 ?_
        refine sl_mv rfl rfl rfl ?_
        refine sl_guard_y rfl rfl rfl hg31 ?_
        first
          | refine sl_inc rfl rfl rfl rfl (by omega) ?_
          | refine sl_add rfl rfl rfl rfl (by constructor <;> omega) ?_
          | refine sl_bin rfl rfl rfl rfl rfl ?_
        refine sl_guard_y rfl rfl rfl hg31 ?_
        refine sl_slice_str a (a + 2) rfl rfl rfl u_9 ⟨_, rfl⟩ ⟨_, rfl⟩ (by omega) (by simp only [decide_eq_true_eq] at *; omega) ?_
        refine sl_guard_y rfl rfl rfl hg31 ?_
        refine sl_str rfl rfl rfl rfl rfl ?_
        refine sl_guard_y rfl rfl rfl hg27 ?_
        refine sl_pk_f rfl rfl rfl hg31 rfl ?_
        refine sl_guard_y rfl rfl rfl hg27 ?_
        refine sl_mv rfl rfl rfl ?_
        refine sl_case_at 72 rfl (fun hg32 => ?_) (fun hg32 => ?_)
        · refine sl_guard_n rfl rfl rfl hg32 ?_
          refine sl_guard_n rfl rfl rfl hg32 ?_
          refine sl_guard_n rfl rfl rfl hg32 ?_
          refine sl_guard_n rfl rfl rfl hg32 ?_
          refine sl_guard_n rfl rfl rfl hg32 ?_
          refine sl_guard_n rfl rfl rfl hg32 ?_
          refine sl_guard_y rfl rfl rfl hg27 ?_
          refine sl_pk_t rfl rfl rfl hg32 rfl ?_
          refine sl_pk_t rfl rfl rfl hg27 rfl ?_
          refine sl_set 80 (.val (.bool (twoB ((s.drop a).take 2)))) (congrArg (fun b => D.val (.bool b)) (by have e2 : a + 2 - a = 2 := (by omega); clear hlex hn hout ha hb hl hd hx; first | (refine (two_short (?_)).symm; rw [List.length_drop]; simp only [decide_eq_false_iff_not] at *; omega) | (simp only [e2] at *; simp_all [twoB, sixL]; try (rw [Bool.eq_iff_iff]; simp)))) ?_
          refine sl_nil ?_
          refine ⟨?_, ?_, rfl, trivial⟩
          · exact ⟨rfl, by repeat constructor⟩
          · repeat constructor
        refine sl_guard_y rfl rfl rfl hg32 ?_
        refine sl_mv rfl rfl rfl ?_
        refine sl_guard_y rfl rfl rfl hg32 ?_
        refine sl_mv rfl rfl rfl ?_
        refine sl_guard_y rfl rfl rfl hg32 ?_
        refine sl_mv rfl rfl rfl ?_
        refine sl_guard_y rfl rfl rfl hg32 ?_
        first
          | refine sl_inc rfl rfl rfl rfl (by omega) ?_
          | refine sl_add rfl rfl rfl rfl (by constructor <;> omega) ?_
          | refine sl_bin rfl rfl rfl rfl rfl ?_
        refine sl_guard_y rfl rfl rfl hg32 ?_
        refine sl_slice_str a (a + 2) rfl rfl rfl u_9 ⟨_, rfl⟩ ⟨_, rfl⟩ (by omega) (by simp only [decide_eq_true_eq] at *; omega) ?_
        refine sl_guard_y rfl rfl rfl hg32 ?_
        refine sl_str rfl rfl rfl rfl rfl ?_
        refine sl_guard_y rfl rfl rfl hg27 ?_
        refine sl_pk_f rfl rfl rfl hg32 rfl ?_
        refine sl_pk_t rfl rfl rfl hg27 rfl ?_
        refine sl_set 80 (.val (.bool (twoB ((s.drop a).take 2)))) (congrArg (fun b => D.val (.bool b)) (by have e2 : a + 2 - a = 2 := (by omega); clear hlex hn hout ha hb hl hd hx; first | (refine (two_short (?_)).symm; rw [List.length_drop]; simp only [decide_eq_false_iff_not] at *; omega) | (simp only [e2] at *; simp_all [twoB, sixL]; try (rw [Bool.eq_iff_iff]; simp)))) ?_
        refine sl_nil ?_
        refine ⟨?_, ?_, rfl, trivial⟩
        · exact ⟨rfl, by repeat constructor⟩
        · repeat constructor
      refine sl_guard_n rfl rfl rfl hg27 ?_
      refine sl_guard_n rfl rfl rfl hg27 ?_
      refine sl_guard_n rfl rfl rfl hg27 ?_
      refine sl_guard_n rfl rfl rfl hg27 ?_
      refine sl_guard_n rfl rfl rfl hg27 ?_
      refine sl_guard_n rfl rfl rfl hg27 ?_
      refine sl_guard_n rfl rfl rfl hg27 ?_
      refine sl_guard_u rfl rfl rfl ?_
      refine sl_guard_u rfl rfl rfl ?_
      refine sl_guard_u rfl rfl rfl ?_
      refine sl_guard_u rfl rfl rfl ?_
      refine sl_guard_u rfl rfl rfl ?_
      refine sl_guard_u rfl rfl rfl ?_
      refine sl_guard_n rfl rfl rfl hg27 ?_
      refine sl_guard_n rfl rfl rfl hg27 ?_
      refine sl_guard_u rfl rfl rfl ?_
      refine sl_guard_u rfl rfl rfl ?_
      refine sl_guard_u rfl rfl rfl ?_
      refine sl_guard_u rfl rfl rfl ?_
      refine sl_guard_u rfl rfl rfl ?_
      refine sl_guard_u rfl rfl rfl ?_
      refine sl_guard_n rfl rfl rfl hg27 ?_
      refine sl_guard_n rfl rfl rfl hg27 ?_
      refine sl_guard_u rfl rfl rfl ?_
      refine sl_guard_u rfl rfl rfl ?_
      refine sl_guard_u rfl rfl rfl ?_
      refine sl_guard_u rfl rfl rfl ?_
      refine sl_guard_u rfl rfl rfl ?_
      refine sl_guard_u rfl rfl rfl ?_
      refine sl_guard_n rfl rfl rfl hg27 ?_
      refine sl_guard_n rfl rfl rfl hg27 ?_
      refine sl_guard_u rfl rfl rfl ?_
      refine sl_guard_u rfl rfl rfl ?_
      refine sl_guard_u rfl rfl rfl ?_
      refine sl_guard_u rfl rfl rfl ?_
      refine sl_guard_u rfl rfl rfl ?_
      refine sl_guard_u rfl rfl rfl ?_
      refine sl_guard_n rfl rfl rfl hg27 ?_
      refine sl_guard_n rfl rfl rfl hg27 ?_
      refine sl_guard_u rfl rfl rfl ?_
      refine sl_guard_u rfl rfl rfl ?_
      refine sl_guard_u rfl rfl rfl ?_
      refine sl_guard_u rfl rfl rfl ?_
      refine sl_guard_u rfl rfl rfl ?_
      refine sl_guard_u rfl rfl rfl ?_
      refine sl_guard_n rfl rfl rfl hg27 ?_
      refine sl_pk_f rfl rfl rfl hg27 rfl ?_
      refine sl_set 80 (.val (.bool (twoB ((s.drop a).take 2)))) (congrArg (fun b => D.val (.bool b)) (by have e2 : a + 2 - a = 2 := (by omega); clear hlex hn hout ha hb hl hd hx; first | (refine (two_short (?_)).symm; rw [List.length_drop]; simp only [decide_eq_false_iff_not] at *; omega) | (simp only [e2] at *; simp_all [twoB, sixL]; try (rw [Bool.eq_iff_iff]; simp)))) ?_
      refine sl_nil ?_
      refine ⟨?_, ?_, rfl, trivial⟩
      · exact ⟨rfl, by repeat constructor⟩
      · repeat constructor
    intro _
    refine sw_cond rfl (fun ht => ?_) (fun ht => ?_)
    · obtain ⟨hst, hlen, hle2⟩ := step_two hc1 hl hd ht
      rw [lex_tok hc1 hb hx1 (by rw [hst]), hst] at hlex
      rw [hlen] at hlex
      refine sl_region ?_
      refine sl_mv rfl rfl rfl ?_
      refine sl_mv rfl rfl rfl ?_
      refine sl_mv rfl rfl rfl ?_
      first
        | refine sl_inc rfl rfl rfl rfl (by omega) ?_
        | refine sl_add rfl rfl rfl rfl (by constructor <;> omega) ?_
        | refine sl_bin rfl rfl rfl rfl rfl ?_
      refine sl_slice_str a (a + 2) rfl rfl rfl u_9 ⟨_, rfl⟩ ⟨_, rfl⟩ (by omega) hle2 ?_
      refine sl_set 85 (.val (.str ((s.drop a).take 2))) (congrArg (fun k => D.val (.str ((s.drop a).take k))) (by omega)) ?_
      refine sl_as rfl rfl rfl ?_
      refine sl_nil ?_
      refine sw_seq ?_
      refine sl_region ?_
      refine sl_mv rfl rfl rfl ?_
      refine sl_mv rfl rfl rfl ?_
      refine sl_len_str rfl rfl rfl u_9 ?_
      first
        | refine sl_inc rfl rfl rfl rfl (by omega) ?_
        | refine sl_add rfl rfl rfl rfl (by constructor <;> omega) ?_
        | refine sl_bin rfl rfl rfl rfl rfl ?_
      refine sl_set 93 (.val (.int .i64 ((a + 2 : Nat) : Int))) (congrArg (fun z => D.val (.int .i64 z)) (by rw [hlen]; rfl)) ?_
      refine sl_as rfl rfl rfl ?_
      refine sl_nil ?_
      refine sl_region ?_
      refine sl_mv rfl rfl rfl ?_
      refine sl_mv rfl rfl rfl ?_
      refine sl_mv rfl rfl rfl ?_
      refine sl_bd rfl rfl (.cons rfl (.cons rfl (.cons rfl .nil))) bi_45 zd_45 rfl ?_
      refine sl_bsn ([tokV ⟨2, (s.drop a).take 2, a⟩]) rfl rfl (.cons rfl .nil) u_40 sz_45 zs_45 (by decide) rfl rfl rfl (SzI.get (by repeat constructor)) ?_
      refine sl_appp rfl rfl rfl rfl u_40 ⟨_, u_40, rfl⟩ el_45 (by repeat constructor) (by repeat constructor) (by simp only [List.length_map, List.length_cons, List.length_nil]; omega) ((by rw [List.map_append]; rfl : _ = (out ++ [Tok.mk 2 ((s.drop a).take 2) a]).map tokV)) (by repeat constructor) (fun v99 => ?_)
      refine sl_as rfl rfl rfl ?_
      refine sl_nil ?_
      refine ⟨_, by omega, _, _, ?_, ?_, n, a + 2, out ++ [Tok.mk 2 ((s.drop a).take 2) a], v99, rfl, rfl, rfl, rfl, (by omega), (by omega), (hlex), (by rw [List.length_append, List.length_singleton]; omega)⟩
      · exact ⟨rfl, by repeat constructor⟩
      · repeat constructor
    refine sw_seq ?_
    refine sl_region ?_
    refine sl_mv rfl rfl rfl ?_
    refine sl_callf rfl rfl cal_69 (one_ok signs1 s[a] (.spare v 3 :: σ) (by decide)) ?_ ?_ ?_ (fun _ _ h => h.elim)
    · repeat constructor
    · repeat constructor
    rintro _ _ ⟨rfl, rfl⟩
    refine sl_not rfl rfl rfl ?_
    refine sl_nil ?_
    refine sw_cond rfl (fun hone => ?_) (fun hone => ?_)
    · have hst := step_none hc1 hl hd ht (by simpa using hone)
      rw [lex_bad hc1 hb hx1 (by rw [hst]; decide), hst] at hlex
      refine sw_seq ?_
      refine sl_region ?_
      refine sl_mv rfl rfl rfl ?_
      refine sl_as rfl rfl rfl ?_
      refine sl_as rfl rfl rfl ?_
      refine sl_as rfl rfl rfl ?_
      refine sl_nil ?_
      refine sw_ret ⟨rfl, _, _, ResD.weaks (ds' := [.val (.list []), .val (.int .i64 (a : Int)), .val (.int .i64 50)]) (res_many (ts := [2, 3, 4]) rfl (by decide) rfl) (by repeat constructor), ?_, by unfold toks; rw [if_neg hg1, ← hlex]; exact ⟨rfl, rfl⟩⟩
      repeat constructor
    obtain ⟨hst, hlen⟩ := step_one hc1 hl hd ht (by simpa using hone)
    rw [lex_tok hc1 hb hx1 (by rw [hst]), hst] at hlex
    rw [hlen] at hlex
    refine sw_skip ?_
    refine sw_seq ?_
    refine sl_region ?_
    refine sl_mv rfl rfl rfl ?_
    refine sl_mv rfl rfl rfl ?_
    refine sl_len_str rfl rfl rfl u_9 ?_
    first
      | refine sl_inc rfl rfl rfl rfl (by omega) ?_
      | refine sl_add rfl rfl rfl rfl (by constructor <;> omega) ?_
      | refine sl_bin rfl rfl rfl rfl rfl ?_
    refine sl_set 93 (.val (.int .i64 ((a + 1 : Nat) : Int))) (congrArg (fun z => D.val (.int .i64 z)) (by rw [hlen]; rfl)) ?_
    refine sl_as rfl rfl rfl ?_
    refine sl_nil ?_
    refine sl_region ?_
    refine sl_mv rfl rfl rfl ?_
    refine sl_mv rfl rfl rfl ?_
    refine sl_mv rfl rfl rfl ?_
    refine sl_bd rfl rfl (.cons rfl (.cons rfl (.cons rfl .nil))) bi_45 zd_45 rfl ?_
    refine sl_bsn ([tokV ⟨2, (s.drop a).take 1, a⟩]) rfl rfl (.cons rfl .nil) u_40 sz_45 zs_45 (by decide) rfl rfl rfl (SzI.get (by repeat constructor)) ?_
    refine sl_appp rfl rfl rfl rfl u_40 ⟨_, u_40, rfl⟩ el_45 (by repeat constructor) (by repeat constructor) (by simp only [List.length_map, List.length_cons, List.length_nil]; omega) ((by rw [List.map_append]; rfl : _ = (out ++ [Tok.mk 2 ((s.drop a).take 1) a]).map tokV)) (by repeat constructor) (fun v99 => ?_)
    refine sl_as rfl rfl rfl ?_
    refine sl_nil ?_
    refine ⟨_, by omega, _, _, ?_, ?_, n, a + 1, out ++ [Tok.mk 2 ((s.drop a).take 1) a], v99, rfl, rfl, rfl, rfl, (by omega), (by omega), (hlex), (by rw [List.length_append, List.length_singleton]; omega)⟩
    · exact ⟨rfl, by repeat constructor⟩
    · repeat constructor
  have hc1 : s.length ≤ a := by have := of_decide_eq_false hc; omega
  rw [lex_end hc1] at hlex
  refine sw_exit ?_
  refine sw_seq ?_
  refine sl_region ?_
  refine sl_mv rfl rfl rfl ?_
  refine sl_as rfl rfl rfl ?_
  refine sl_as rfl rfl rfl ?_
  refine sl_as rfl rfl rfl ?_
  refine sl_nil ?_
  refine sw_ret ⟨rfl, _, _, ResD.weaks (ds' := [.val (.list (out.map tokV)), .val (.int .i64 0), .val (.int .i64 0)]) (res_many (ts := [2, 3, 4]) rfl (by decide) rfl) (by repeat constructor), ?_, by unfold toks; rw [if_neg hg1, ← hlex]; exact ⟨rfl, rfl⟩⟩
  repeat constructor

end Go.Proofs.Ytioechdfghglhaa

/- Walks: printed by a program of this session out of its script LexE. -/
namespace Go.Proofs.Ytioechdfghglhaa
set_option linter.unusedVariables false
set_option linter.unusedSimpArgs false
set_option maxRecDepth 4000
set_option maxHeartbeats 4000000
open Go Go.RowKit SL


/-- Tokens held against one another. -/
theorem htokens_ok (a b : List Tok) (σ : List Chunk) (hsm : a.length ≤ 100000000) :
    FSpec Try.prog 27 [.val (.list (a.map tokV)), .val (.list (b.map tokV))] σ (fun d σ' => d = .val (.bool (decide (a = b))) ∧ σ' = σ) := by
  refine spec_of_sw Try.func27 rfl ?_
  refine sw_seq ?_
  refine sl_region ?_
  refine sl_as rfl rfl rfl ?_
  refine sl_nil ?_
  refine sw_seq ?_
  refine sw_seq ?_
  refine sl_region ?_
  refine sl_mv rfl rfl rfl ?_
  first
    | refine sl_len rfl rfl rfl ⟨_, u_40⟩ ?_
    | refine sl_len_sl rfl rfl rfl ⟨_, u_40⟩ ?_
    | refine sl_len_w _ rfl rfl rfl ⟨_, u_40⟩ ?_
  refine sl_mv rfl rfl rfl ?_
  first
    | refine sl_len rfl rfl rfl ⟨_, u_40⟩ ?_
    | refine sl_len_sl rfl rfl rfl ⟨_, u_40⟩ ?_
    | refine sl_len_w _ rfl rfl rfl ⟨_, u_40⟩ ?_
  refine sl_bin rfl rfl rfl rfl rfl ?_
  refine sl_nil ?_
  refine sw_cond rfl (fun hl => ?_) (fun hl => ?_)
  · have hl1 : a.length ≠ b.length := len_ne hl
    refine sw_seq ?_
    refine sl_region ?_
    refine sl_as rfl rfl rfl ?_
    refine sl_nil ?_
    refine sw_ret ⟨rfl, _, _, res_one rfl rfl, ?_, ⟨dec_ff (fun e => hl1 (by rw [e])), rfl⟩⟩
    repeat constructor
  have hl1 : a.length = b.length := len_nn hl
  refine sw_skip ?_
  refine sw_seq ?_
  refine sw_seq ?_
  refine sl_region ?_
  refine sl_as rfl rfl rfl ?_
  refine sl_nil ?_
  refine sw_block ?_
  refine sw_loopw (fun nX sX δX σX => ∃ (i : Nat), (a.length - i) = nX ∧ sX = ⟨26, (.cons 0 (.val (.list (a.map tokV))) (.cons 1 (.val (.list (b.map tokV))) (.cons 5 (.val (.int .i64 (i : Int))) .nil)))⟩ ∧ δX = [] ∧ σX = σ ∧ (i ≤ a.length) ∧ (∀ k (h1 : k < a.length) (h2 : k < b.length), k < i → a[k] = b[k])) ?_ ?_
  · refine ⟨_, _, _, ?_, ?_, 0, rfl, rfl, rfl, rfl, (Nat.zero_le _), (fun k h1 h2 h => absurd h (Nat.not_lt_zero k))⟩
    · exact ⟨rfl, by repeat constructor⟩
    · repeat constructor
  rintro nX sX δX σX ⟨i, rfl, rfl, rfl, rfl, hi, hall⟩
  refine sw_seq ?_
  refine sw_seq ?_
  refine sl_region ?_
  refine sl_mv rfl rfl rfl ?_
  refine sl_mv rfl rfl rfl ?_
  first
    | refine sl_len rfl rfl rfl ⟨_, u_40⟩ ?_
    | refine sl_len_sl rfl rfl rfl ⟨_, u_40⟩ ?_
    | refine sl_len_w _ rfl rfl rfl ⟨_, u_40⟩ ?_
  refine sl_bin rfl rfl rfl rfl rfl ?_
  refine sl_nil ?_
  refine sw_cond rfl (fun hj => ?_) (fun hj => ?_)
  · have hj1 : i < a.length := by have := of_decide_eq_true hj; rw [List.length_map] at this; omega
    have hj2 : i < b.length := by omega
    refine sw_skip ?_
    refine sw_seq ?_
    refine sw_block ?_
    refine sw_seq ?_
    refine sa_start [] mixed ?_
    refine sa_take 0 rfl rfl (by kernel_rfl) .nil (pu_mv rfl rfl) ?_
    refine sa_take 1 rfl rfl (by kernel_rfl) .nil (pu_mv rfl rfl) ?_
    refine sa_take 2 rfl rfl (by kernel_rfl) .nil (pu_indexAddr rfl rfl rfl u_40 sz_45 (by omega) (idx_map hj1) rfl) ?_
    refine sa_take 3 rfl rfl (by kernel_rfl) .nil (pu_load_rpn rfl rfl ag_45 sz_45 (Nat.le_of_ble_eq_true rfl)) ?_
    refine sa_take 4 rfl rfl (by kernel_rfl) .nil (pu_mv rfl rfl) ?_
    refine sa_take 5 rfl rfl (by kernel_rfl) .nil (pu_mv rfl rfl) ?_
    refine sa_take 6 rfl rfl (by kernel_rfl) .nil (pu_indexAddr rfl rfl rfl u_40 sz_45 (by omega) (idx_map hj2) rfl) ?_
    refine sa_take 7 rfl rfl (by kernel_rfl) .nil (pu_load_rpn rfl rfl ag_45 sz_45 (Nat.le_of_ble_eq_true rfl)) ?_
    refine sa_take 8 rfl rfl (by kernel_rfl) .nil (pu_struct_ne rfl rfl rfl ag_45 eg_45 ek_45 rfl) ?_
    refine sa_done (by kernel_rfl) ?_
    refine sw_cond rfl (fun he => ?_) (fun he => ?_)
    · refine sw_seq ?_
      refine sl_region ?_
      refine sl_as rfl rfl rfl ?_
      refine sl_nil ?_
      refine sw_ret ⟨rfl, _, _, res_one rfl rfl, ?_, ⟨dec_ff (fun e => by rw [tok_cmp] at he; subst e; simp at he), rfl⟩⟩
      repeat constructor
    refine sw_skip ?_
    refine sl_region ?_
    refine sl_mv rfl rfl rfl ?_
    first
      | refine sl_inc rfl rfl rfl rfl (by omega) ?_
      | refine sl_add rfl rfl rfl rfl (by constructor <;> omega) ?_
      | refine sl_bin rfl rfl rfl rfl rfl ?_
    refine sl_as rfl rfl rfl ?_
    refine sl_nil ?_
    refine ⟨_, by omega, _, _, ?_, ?_, i + 1, rfl, rfl, rfl, rfl, (by omega), (all_two hall hj1 hj2 (by rw [tok_cmp] at he; simpa using he))⟩
    · exact ⟨rfl, by repeat constructor⟩
    · repeat constructor
  have hj1 : i = a.length := by have := of_decide_eq_false hj; rw [List.length_map] at this; omega
  refine sw_exit ?_
  refine sw_seq ?_
  refine sl_region ?_
  refine sl_as rfl rfl rfl ?_
  refine sl_nil ?_
  refine sw_ret ⟨rfl, _, _, res_one rfl rfl, ?_, ⟨dec_tt (list_eq_all hl1 fun k h1 h2 => hall k h1 h2 (by omega)), rfl⟩⟩
  repeat constructor

/-- What is known of tokens. -/
theorem known6_ok (σ : List Chunk) : FSpec Try.prog 23 [] σ (fun d σ' => d = .val (.bool true) ∧ σ' = σ) := by
  refine spec_of_sw Try.func23 rfl ?_
  refine sw_seq ?_
  refine sl_region ?_
  refine sl_as rfl rfl rfl ?_
  refine sl_nil ?_
  refine sw_seq ?_
  refine sl_region ?_
  refine sl_callf rfl rfl cal_24 (tokens_ok [97, 60, 61, 98, 32, 35, 32, 99] σ (by decide)) ?_ ?_ ?_ (fun _ _ h => h.elim)
  · repeat constructor
  · repeat constructor
  rintro _ _ ⟨rfl, hσ⟩
  have hσ2 := hσ.symm
  subst hσ2
  rw [lex_known1]
  refine sl_mv rfl rfl rfl ?_
  refine sl_extract rfl rfl rfl rfl ?_
  refine sl_extract rfl rfl rfl rfl ?_
  refine sl_extract rfl rfl rfl rfl ?_
  refine sl_as rfl rfl rfl ?_
  refine sl_as rfl rfl rfl ?_
  refine sl_as rfl rfl rfl ?_
  refine sl_nil ?_
  refine sw_seq ?_
  refine sl_region ?_
  refine sl_callf rfl rfl cal_24 (tokens_ok [97, 32, 36] σ (by decide)) ?_ ?_ ?_ (fun _ _ h => h.elim)
  · repeat constructor
  · repeat constructor
  rintro _ _ ⟨rfl, hσ⟩
  have hσ2 := hσ.symm
  subst hσ2
  rw [lex_known2]
  refine sl_mv rfl rfl rfl ?_
  refine sl_extract rfl rfl rfl rfl ?_
  refine sl_extract rfl rfl rfl rfl ?_
  refine sl_extract rfl rfl rfl rfl ?_
  refine sl_as rfl rfl rfl ?_
  refine sl_as rfl rfl rfl ?_
  refine sl_as rfl rfl rfl ?_
  refine sl_nil ?_
  refine sw_seq ?_
  refine sl_region ?_
  refine sl_mv rfl rfl rfl ?_
  refine sl_bin rfl rfl rfl rfl rfl ?_
  refine sl_mv rfl rfl rfl ?_
  refine sl_guard_y rfl rfl rfl (rfl) ?_
  refine sl_mv rfl rfl rfl ?_
  refine sl_guard_y rfl rfl rfl (rfl) ?_
  refine sl_bin rfl rfl rfl rfl rfl ?_
  refine sl_pk_t rfl rfl rfl (rfl) rfl ?_
  refine sl_mv rfl rfl rfl ?_
  refine sl_guard_y rfl rfl rfl (rfl) ?_
  refine sl_mv rfl rfl rfl ?_
  refine sl_guard_y rfl rfl rfl (rfl) ?_
  first
    | refine sl_len rfl rfl rfl ⟨_, u_40⟩ ?_
    | refine sl_len_sl rfl rfl rfl ⟨_, u_40⟩ ?_
    | refine sl_len_w _ rfl rfl rfl ⟨_, u_40⟩ ?_
  refine sl_guard_y rfl rfl rfl (rfl) ?_
  refine sl_bin rfl rfl rfl rfl rfl ?_
  refine sl_pk_t rfl rfl rfl (rfl) rfl ?_
  refine sl_mv rfl rfl rfl ?_
  refine sl_guard_y rfl rfl rfl (rfl) ?_
  refine sl_mv rfl rfl rfl ?_
  refine sl_guard_y rfl rfl rfl (rfl) ?_
  refine sl_indexAddr' rfl rfl rfl rfl u_40 sz_45 (by decide) rfl rfl ?_
  refine sl_guard_y rfl rfl rfl (rfl) ?_
  first
    | refine sl_fieldAddr_ptr rfl rfl rfl fo_45_1 ?_
    | refine sl_fieldAddr_rp rfl rfl rfl fo_45_1 ?_
    | refine sl_fieldAddr_ref rfl rfl rfl fo_45_1 ?_
  refine sl_guard_y rfl rfl rfl (rfl) ?_
  first
    | refine sl_load_rp1 rfl rfl rfl ag_9 rfl ?_
    | refine sl_load_blk1 rfl rfl rfl ag_9 (by repeat constructor) rfl ?_
  refine sl_guard_y rfl rfl rfl (rfl) ?_
  refine sl_str rfl rfl rfl rfl rfl ?_
  refine sl_pk_t rfl rfl rfl (rfl) rfl ?_
  refine sl_mv rfl rfl rfl ?_
  refine sl_guard_y rfl rfl rfl (rfl) ?_
  refine sl_mv rfl rfl rfl ?_
  refine sl_guard_y rfl rfl rfl (rfl) ?_
  refine sl_indexAddr' rfl rfl rfl rfl u_40 sz_45 (by decide) rfl rfl ?_
  refine sl_guard_y rfl rfl rfl (rfl) ?_
  first
    | refine sl_fieldAddr_ptr rfl rfl rfl fo_45_2 ?_
    | refine sl_fieldAddr_rp rfl rfl rfl fo_45_2 ?_
    | refine sl_fieldAddr_ref rfl rfl rfl fo_45_2 ?_
  refine sl_guard_y rfl rfl rfl (rfl) ?_
  first
    | refine sl_load_rp1 rfl rfl rfl ag_3 rfl ?_
    | refine sl_load_blk1 rfl rfl rfl ag_3 (by repeat constructor) rfl ?_
  refine sl_guard_y rfl rfl rfl (rfl) ?_
  refine sl_bin rfl rfl rfl rfl rfl ?_
  refine sl_pk_t rfl rfl rfl (rfl) rfl ?_
  refine sl_mv rfl rfl rfl ?_
  refine sl_guard_y rfl rfl rfl (rfl) ?_
  refine sl_mv rfl rfl rfl ?_
  refine sl_guard_y rfl rfl rfl (rfl) ?_
  refine sl_bin rfl rfl rfl rfl rfl ?_
  refine sl_pk_t rfl rfl rfl (rfl) rfl ?_
  refine sl_mv rfl rfl rfl ?_
  refine sl_guard_y rfl rfl rfl (rfl) ?_
  refine sl_mv rfl rfl rfl ?_
  refine sl_guard_y rfl rfl rfl (rfl) ?_
  refine sl_bin rfl rfl rfl rfl rfl ?_
  refine sl_pk_t rfl rfl rfl (rfl) rfl ?_
  refine sl_as rfl rfl rfl ?_
  refine sl_nil ?_
  refine sw_ret ⟨rfl, _, _, res_one rfl rfl, ?_, ⟨rfl, rfl⟩⟩
  repeat constructor

/-- LexSigns. -/
theorem lexSigns_ok (l : List UInt8) : FSpec Try.prog 5 [.val (.list (l.map byteV))] [] (fun d σ' => d = .val (.bool true) ∧ σ' = []) := by
  refine spec_of_sw Try.func5 rfl ?_
  refine sw_seq ?_
  refine sl_region ?_
  refine sl_as rfl rfl rfl ?_
  refine sl_nil ?_
  refine sw_seq ?_
  refine sw_seq ?_
  refine sl_region ?_
  refine sl_callf rfl rfl cal_23 (known6_ok []) ?_ ?_ ?_ (fun _ _ h => h.elim)
  · repeat constructor
  · repeat constructor
  rintro _ _ ⟨rfl, rfl⟩
  refine sl_not rfl rfl rfl ?_
  refine sl_nil ?_
  refine sw_false rfl (rfl) ?_
  refine sw_skip ?_
  refine sw_seq ?_
  refine sw_seq ?_
  refine sl_region ?_
  refine sl_mv rfl rfl rfl ?_
  first
    | refine sl_len rfl rfl rfl ⟨_, u_26⟩ ?_
    | refine sl_len_sl rfl rfl rfl ⟨_, u_26⟩ ?_
    | refine sl_len_w _ rfl rfl rfl ⟨_, u_26⟩ ?_
  refine sl_bin rfl rfl rfl rfl rfl ?_
  refine sl_nil ?_
  refine sw_cond rfl (fun hn => ?_) (fun hn => ?_)
  · refine sw_seq ?_
    refine sl_region ?_
    refine sl_as rfl rfl rfl ?_
    refine sl_nil ?_
    refine sw_ret ⟨rfl, _, _, res_one rfl rfl, ?_, ⟨rfl, rfl⟩⟩
    repeat constructor
  have hn1 : l.length ≤ 40 := by have := of_decide_eq_false hn; rw [List.length_map] at this; omega
  refine sw_skip ?_
  refine sw_seq ?_
  refine sl_region ?_
  refine sl_as rfl rfl rfl ?_
  refine sl_nil ?_
  refine sw_seq ?_
  refine sw_seq ?_
  refine sl_region ?_
  refine sl_as rfl rfl rfl ?_
  refine sl_nil ?_
  refine sw_block ?_
  refine sw_loopw (fun nX sX δX σX => ∃ (k : Nat) (s : List UInt8), (l.length - k) = nX ∧ sX = ⟨104, (.cons 0 (.val (.list (l.map byteV))) (.cons 3 (.val (.str s)) (.cons 4 (.val (.int .i64 (k : Int))) .nil)))⟩ ∧ δX = [] ∧ σX = [] ∧ (k ≤ l.length) ∧ (s = (l.take k).map pick22)) ?_ ?_
  · refine ⟨_, _, _, ?_, ?_, 0, [], rfl, rfl, rfl, rfl, (Nat.zero_le _), (rfl)⟩
    · exact ⟨rfl, by repeat constructor⟩
    · repeat constructor
  rintro nX sX δX σX ⟨k, s, rfl, rfl, rfl, rfl, hk, hs⟩
  refine sw_seq ?_
  refine sw_seq ?_
  refine sl_region ?_
  refine sl_mv rfl rfl rfl ?_
  refine sl_mv rfl rfl rfl ?_
  first
    | refine sl_len rfl rfl rfl ⟨_, u_26⟩ ?_
    | refine sl_len_sl rfl rfl rfl ⟨_, u_26⟩ ?_
    | refine sl_len_w _ rfl rfl rfl ⟨_, u_26⟩ ?_
  refine sl_bin rfl rfl rfl rfl rfl ?_
  refine sl_nil ?_
  refine sw_cond rfl (fun hc => ?_) (fun hc => ?_)
  · have hc1 : k < l.length := by have := of_decide_eq_true hc; rw [List.length_map] at this; omega
    have hsl : s.length = k := by rw [hs, List.length_map, List.length_take]; omega
    obtain ⟨m, hm⟩ : ∃ m, m = l[k].toNat % 22 := ⟨_, rfl⟩
    have hm22 : m < 22 := by rw [hm]; exact Nat.mod_lt _ (by decide)
    have hrem : D.val (.int .u8 ((l[k].toNat : Int).tmod 22)) = .val (.int .u8 (m : Int)) := by rw [hm]; exact congrArg (fun z => D.val (.int .u8 z)) (Int.ofNat_tmod _ 22).symm
    refine sw_skip ?_
    refine sw_seq ?_
    refine sw_block ?_
    refine sa_start [] mixed ?_
    refine sa_take 0 rfl rfl (by kernel_rfl) .nil (pu_mv rfl rfl) ?_
    refine sa_take 1 rfl rfl (by kernel_rfl) .nil (pu_mv rfl rfl) ?_
    refine sa_take 2 rfl rfl (by kernel_rfl) .nil (pu_mv rfl rfl) ?_
    refine sa_take 3 rfl rfl (by kernel_rfl) .nil (pu_indexAddr rfl rfl rfl u_26 sz_5 (by omega) (idx_map hc1) rfl) ?_
    refine sa_take 4 rfl rfl (by kernel_rfl) .nil (pu_load_rp1 rfl rfl ag_5 rfl) ?_
    refine sa_take 5 rfl rfl (by kernel_rfl) .nil (pu_rem rfl rfl rfl (by decide)) ?_
    refine sa_set 29 (.val (.int .u8 (m : Int))) (hrem) ?_
    refine sa_take 6 rfl rfl (by kernel_rfl) .nil (pu_mv rfl rfl) ?_
    refine sa_take 7 rfl rfl (by kernel_rfl) .nil (pu_mv rfl rfl) ?_
    refine sa_take 8 rfl rfl (by kernel_rfl) .nil (pu_indexAddr rfl rfl rfl u_26 sz_5 (by omega) (idx_map hc1) rfl) ?_
    refine sa_take 9 rfl rfl (by kernel_rfl) .nil (pu_load_rp1 rfl rfl ag_5 rfl) ?_
    refine sa_take 10 rfl rfl (by kernel_rfl) .nil (pu_rem rfl rfl rfl (by decide)) ?_
    refine sa_set 34 (.val (.int .u8 (m : Int))) (hrem) ?_
    refine sa_take 11 rfl rfl (by kernel_rfl) .nil (pu_bin rfl rfl rfl rfl) ?_
    refine sa_set 35 (.val (.int .u8 ((m + 1 : Nat) : Int))) (congrArg (fun z => D.val (.int .u8 z)) (by rw [wrap_u8 (by omega) (by omega)]; omega)) ?_
    refine sa_one 12 (by kernel_rfl) rfl ?_
    refine sl_slice_str m (m + 1) rfl rfl rfl u_9 ⟨_, rfl⟩ ⟨_, rfl⟩ (by omega) (show m + 1 ≤ 22 by omega) ?_
    refine sl_nil ⟨.nil, ?_⟩
    refine sa_set 36 (.val (.str [pick22 l[k]])) (congrArg (fun z => D.val (.str z)) (by rw [hm]; exact pick22_part l[k])) ?_
    refine sa_one 13 (by kernel_rfl) rfl ?_
    refine sl_str_add rfl rfl rfl rfl (by rw [hsl]; show k + 1 ≤ _; omega) ?_
    refine sl_nil ⟨.nil, ?_⟩
    refine sa_one 14 (by kernel_rfl) rfl ?_
    refine sl_as rfl rfl rfl ?_
    refine sl_nil ⟨.nil, ?_⟩
    refine sa_done (by kernel_rfl) ?_
    refine sl_region ?_
    refine sl_mv rfl rfl rfl ?_
    first
      | refine sl_inc rfl rfl rfl rfl (by omega) ?_
      | refine sl_add rfl rfl rfl rfl (by constructor <;> omega) ?_
      | refine sl_bin rfl rfl rfl rfl rfl ?_
    refine sl_as rfl rfl rfl ?_
    refine sl_nil ?_
    refine ⟨_, by omega, _, _, ?_, ?_, k + 1, s ++ [pick22 l[k]], rfl, rfl, rfl, rfl, (by omega), (by rw [hs, take_snoc hc1, List.map_append]; rfl)⟩
    · exact ⟨rfl, by repeat constructor⟩
    · repeat constructor
  have hc1 : k = l.length := by have := of_decide_eq_false hc; rw [List.length_map] at this; omega
  rw [hc1, List.take_length] at hs
  have hsl : s.length ≤ 40 := by rw [hs, List.length_map]; exact hn1
  have hmem : ∀ c ∈ s, c ∈ a22 := fun c hc => by rw [hs] at hc; obtain ⟨b, _, rfl⟩ := List.mem_map.mp hc; exact pick22_mem b
  have hcov := toks_cov hmem
  have hnum := toks_num s
  refine sw_exit ?_
  refine sw_seq ?_
  refine sl_region ?_
  refine sl_mv rfl rfl rfl ?_
  refine sl_callf rfl rfl cal_24 (tokens_ok s [] (by omega)) ?_ ?_ ?_ (fun _ _ h => h.elim)
  · repeat constructor
  · repeat constructor
  rintro _ _ ⟨rfl, rfl⟩
  refine sl_mv rfl rfl rfl ?_
  refine sl_extract rfl rfl rfl rfl ?_
  refine sl_extract rfl rfl rfl rfl ?_
  refine sl_extract rfl rfl rfl rfl ?_
  refine sl_as rfl rfl rfl ?_
  refine sl_as rfl rfl rfl ?_
  refine sl_as rfl rfl rfl ?_
  refine sl_nil ?_
  refine sw_seq ?_
  refine sl_region ?_
  refine sl_mv rfl rfl rfl ?_
  refine sl_callf rfl rfl cal_26 (xtokens_ok s [] (by omega)) ?_ ?_ ?_ (fun _ _ h => h.elim)
  · repeat constructor
  · repeat constructor
  rintro _ _ ⟨rfl, rfl⟩
  obtain ⟨L, hL⟩ : ∃ L, L = (toks s).1 := ⟨_, rfl⟩
  obtain ⟨e, he⟩ : ∃ L, L = (toks s).2.2 := ⟨_, rfl⟩
  obtain ⟨p, hp⟩ : ∃ L, L = (toks s).2.1 := ⟨_, rfl⟩
  rw [← hL] at hcov hnum
  rw [← hL, ← he, ← hp]
  refine sl_mv rfl rfl rfl ?_
  refine sl_extract rfl rfl rfl rfl ?_
  refine sl_extract rfl rfl rfl rfl ?_
  refine sl_extract rfl rfl rfl rfl ?_
  refine sl_as rfl rfl rfl ?_
  refine sl_as rfl rfl rfl ?_
  refine sl_as rfl rfl rfl ?_
  refine sl_nil ?_
  refine sw_seq ?_
  refine sw_seq ?_
  refine sl_region ?_
  refine sl_mv rfl rfl rfl ?_
  refine sl_mv rfl rfl rfl ?_
  refine sl_bin rfl rfl rfl rfl rfl ?_
  refine sl_set 52 (.val (.bool false)) (self_ne_i64 _) ?_
  refine sl_mv rfl rfl rfl ?_
  refine sl_guard_y rfl rfl rfl (rfl) ?_
  refine sl_mv rfl rfl rfl ?_
  refine sl_guard_y rfl rfl rfl (rfl) ?_
  refine sl_mv rfl rfl rfl ?_
  refine sl_guard_y rfl rfl rfl (rfl) ?_
  refine sl_bin rfl rfl rfl rfl rfl ?_
  refine sl_set 56 (.val (.bool false)) (self_ne_i64 _) ?_
  refine sl_pk_f rfl rfl rfl (rfl) rfl ?_
  refine sl_mv rfl rfl rfl ?_
  refine sl_guard_y rfl rfl rfl (rfl) ?_
  refine sl_mv rfl rfl rfl ?_
  refine sl_guard_y rfl rfl rfl (rfl) ?_
  refine sl_mv rfl rfl rfl ?_
  refine sl_guard_y rfl rfl rfl (rfl) ?_
  refine sl_callf rfl rfl cal_27 (htokens_ok L L [] (by omega)) ?_ ?_ ?_ (fun _ _ h => h.elim)
  · repeat constructor
  · repeat constructor
  rintro _ _ ⟨rfl, rfl⟩
  refine sl_guard_y rfl rfl rfl (rfl) ?_
  refine sl_not rfl rfl rfl ?_
  refine sl_set 62 (.val (.bool false)) (not_dec_true rfl) ?_
  refine sl_pk_f rfl rfl rfl (rfl) rfl ?_
  refine sl_nil ?_
  refine sw_false rfl (rfl) ?_
  refine sw_skip ?_
  refine sw_seq ?_
  refine sl_region ?_
  refine sl_as rfl rfl rfl ?_
  refine sl_nil ?_
  refine sw_seq ?_
  refine sw_seq ?_
  refine sl_region ?_
  refine sl_as rfl rfl rfl ?_
  refine sl_nil ?_
  refine sw_block ?_
  refine sw_loopw (fun nX sX δX σX => ∃ (j a : Nat), (L.length - j) = nX ∧ sX = ⟨104, (.cons 3 (.val (.str s)) (.cons 5 (.val (.list (L.map tokV))) (.cons 7 (.val (.int .i64 e)) (.cons 11 (.val (.int .i64 (a : Int))) (.cons 12 (.val (.int .i64 (j : Int))) .nil)))))⟩ ∧ δX = [] ∧ σX = [] ∧ (j ≤ L.length) ∧ (Cov s a (L.drop j))) ?_ ?_
  · refine ⟨_, _, _, ?_, ?_, 0, 0, rfl, rfl, rfl, rfl, (Nat.zero_le _), (hcov)⟩
    · exact ⟨rfl, by repeat constructor⟩
    · repeat constructor
  rintro nX sX δX σX ⟨j, a, rfl, rfl, rfl, rfl, hj, hcv⟩
  refine sw_seq ?_
  refine sw_seq ?_
  refine sl_region ?_
  refine sl_mv rfl rfl rfl ?_
  refine sl_mv rfl rfl rfl ?_
  first
    | refine sl_len rfl rfl rfl ⟨_, u_40⟩ ?_
    | refine sl_len_sl rfl rfl rfl ⟨_, u_40⟩ ?_
    | refine sl_len_w _ rfl rfl rfl ⟨_, u_40⟩ ?_
  refine sl_bin rfl rfl rfl rfl rfl ?_
  refine sl_nil ?_
  refine sw_cond rfl (fun hc => ?_) (fun hc => ?_)
  · have hj1 : j < L.length := by have := of_decide_eq_true hc; rw [List.length_map] at this; omega
    obtain ⟨h1, h2, h3, h4⟩ := cov_at hj1 hcv
    refine sw_skip ?_
    refine sw_seq ?_
    refine sw_block ?_
    refine sw_seq ?_
    refine sw_block ?_
    refine sw_loopw (fun nX sX δX σX => ∃ (i : Nat), (s.length - i) = nX ∧ sX = ⟨104, (.cons 3 (.val (.str s)) (.cons 5 (.val (.list (L.map tokV))) (.cons 7 (.val (.int .i64 e)) (.cons 11 (.val (.int .i64 (i : Int))) (.cons 12 (.val (.int .i64 (j : Int))) .nil)))))⟩ ∧ δX = [] ∧ σX = [] ∧ (a ≤ i ∧ i ≤ L[j].pos)) ?_ ?_
    · refine ⟨_, _, _, ?_, ?_, a, rfl, rfl, rfl, rfl, (⟨Nat.le_refl _, h1⟩)⟩
      · exact ⟨rfl, by repeat constructor⟩
      · repeat constructor
    rintro nX sX δX σX ⟨i, rfl, rfl, rfl, rfl, hi⟩
    refine sw_seq ?_
    refine sw_seq ?_
    refine sl_region ?_
    refine sl_mv rfl rfl rfl ?_
    refine sl_mv rfl rfl rfl ?_
    refine sl_mv rfl rfl rfl ?_
    refine sl_indexAddr' rfl rfl rfl rfl u_40 sz_45 (by omega) (idx_map hj1) rfl ?_
    first
      | refine sl_fieldAddr_ptr rfl rfl rfl fo_45_2 ?_
      | refine sl_fieldAddr_rp rfl rfl rfl fo_45_2 ?_
      | refine sl_fieldAddr_ref rfl rfl rfl fo_45_2 ?_
    first
      | refine sl_load_rp1 rfl rfl rfl ag_3 rfl ?_
      | refine sl_load_blk1 rfl rfl rfl ag_3 (by repeat constructor) rfl ?_
    refine sl_bin rfl rfl rfl rfl rfl ?_
    refine sl_nil ?_
    refine sw_cond rfl (fun hc2 => ?_) (fun hc2 => ?_)
    · have hc3 : i < L[j].pos := by have := of_decide_eq_true hc2; omega
      have hil : i < s.length := by omega
      have h32 := h3 i hil hi.1 hc3
      refine sw_skip ?_
      refine sw_block ?_
      refine sw_seq ?_
      refine sw_seq ?_
      refine sl_region ?_
      refine sl_mv rfl rfl rfl ?_
      refine sl_mv rfl rfl rfl ?_
      refine sl_index_str' rfl rfl rfl rfl u_9 (by omega) (List.getElem?_eq_getElem hil) ?_
      refine sl_bin rfl rfl rfl rfl rfl ?_
      refine sl_set 80 (.val (.bool false)) (by rw [h32]; rfl) ?_
      refine sl_nil ?_
      refine sw_false rfl (rfl) ?_
      refine sw_skip ?_
      refine sl_region ?_
      refine sl_mv rfl rfl rfl ?_
      first
        | refine sl_inc rfl rfl rfl rfl (by omega) ?_
        | refine sl_add rfl rfl rfl rfl (by constructor <;> omega) ?_
        | refine sl_bin rfl rfl rfl rfl rfl ?_
      refine sl_as rfl rfl rfl ?_
      refine sl_nil ?_
      refine ⟨_, by omega, _, _, ?_, ?_, i + 1, rfl, rfl, rfl, rfl, (⟨by omega, by omega⟩)⟩
      · exact ⟨rfl, by repeat constructor⟩
      · repeat constructor
    have hc3 : i = L[j].pos := by have := of_decide_eq_false hc2; omega
    refine sw_exit ?_
    refine sl_region ?_
    refine sl_mv rfl rfl rfl ?_
    refine sl_mv rfl rfl rfl ?_
    refine sl_mv rfl rfl rfl ?_
    refine sl_indexAddr' rfl rfl rfl rfl u_40 sz_45 (by omega) (idx_map hj1) rfl ?_
    first
      | refine sl_fieldAddr_ptr rfl rfl rfl fo_45_1 ?_
      | refine sl_fieldAddr_rp rfl rfl rfl fo_45_1 ?_
      | refine sl_fieldAddr_ref rfl rfl rfl fo_45_1 ?_
    first
      | refine sl_load_rp1 rfl rfl rfl ag_9 rfl ?_
      | refine sl_load_blk1 rfl rfl rfl ag_9 (by repeat constructor) rfl ?_
    refine sl_len_str rfl rfl rfl u_9 ?_
    first
      | refine sl_inc rfl rfl rfl rfl (by omega) ?_
      | refine sl_add rfl rfl rfl rfl (by constructor <;> omega) ?_
      | refine sl_bin rfl rfl rfl rfl rfl ?_
    refine sl_set 90 (.val (.int .i64 ((L[j].pos + L[j].text.length : Nat) : Int))) (congrArg (fun z => D.val (.int .i64 z)) (by omega)) ?_
    refine sl_as rfl rfl rfl ?_
    refine sl_nil ?_
    refine sl_region ?_
    refine sl_mv rfl rfl rfl ?_
    first
      | refine sl_inc rfl rfl rfl rfl (by omega) ?_
      | refine sl_add rfl rfl rfl rfl (by constructor <;> omega) ?_
      | refine sl_bin rfl rfl rfl rfl rfl ?_
    refine sl_as rfl rfl rfl ?_
    refine sl_nil ?_
    refine ⟨_, by omega, _, _, ?_, ?_, j + 1, _, rfl, rfl, rfl, rfl, (by omega), (h4)⟩
    · exact ⟨rfl, by repeat constructor⟩
    · repeat constructor
  have hj1 : j = L.length := by have := of_decide_eq_false hc; rw [List.length_map] at this; omega
  have hal : a ≤ s.length := by rw [hj1, List.drop_length] at hcv; exact hcv
  refine sw_exit ?_
  refine sw_seq ?_
  refine sl_region ?_
  refine sl_mv rfl rfl rfl ?_
  refine sl_bin rfl rfl rfl rfl rfl ?_
  refine sl_mv rfl rfl rfl ?_
  refine sl_case_at 93 rfl (fun hg5 => ?_) (fun hg5 => ?_)
  · refine sl_guard_n rfl rfl rfl hg5 ?_
    refine sl_guard_n rfl rfl rfl hg5 ?_
    refine sl_guard_n rfl rfl rfl hg5 ?_
    refine sl_pk_t rfl rfl rfl hg5 rfl ?_
    refine sl_mv rfl rfl rfl ?_
    refine sl_guard_n rfl rfl rfl (rfl) ?_
    refine sl_guard_n rfl rfl rfl (rfl) ?_
    refine sl_guard_n rfl rfl rfl (rfl) ?_
    refine sl_guard_n rfl rfl rfl (rfl) ?_
    refine sl_pk_t rfl rfl rfl (rfl) rfl ?_
    refine sl_as rfl rfl rfl ?_
    refine sl_nil ?_
    refine sw_ret ⟨rfl, _, _, res_one rfl rfl, ?_, ⟨congrArg (fun b => D.val (.bool b)) (by first | rfl | exact decide_eq_true (by omega)), rfl⟩⟩
    repeat constructor
  refine sl_guard_y rfl rfl rfl hg5 ?_
  refine sl_mv rfl rfl rfl ?_
  refine sl_guard_y rfl rfl rfl hg5 ?_
  first
    | refine sl_len rfl rfl rfl ⟨_, u_40⟩ ?_
    | refine sl_len_sl rfl rfl rfl ⟨_, u_40⟩ ?_
    | refine sl_len_w _ rfl rfl rfl ⟨_, u_40⟩ ?_
  refine sl_guard_y rfl rfl rfl hg5 ?_
  refine sl_bin rfl rfl rfl rfl rfl ?_
  refine sl_pk_f rfl rfl rfl hg5 rfl ?_
  refine sl_mv rfl rfl rfl ?_
  refine sl_case_at 98 rfl (fun hg6 => ?_) (fun hg6 => ?_)
  · refine sl_guard_n rfl rfl rfl hg6 ?_
    refine sl_guard_n rfl rfl rfl hg6 ?_
    refine sl_guard_n rfl rfl rfl hg6 ?_
    refine sl_guard_n rfl rfl rfl hg6 ?_
    refine sl_pk_t rfl rfl rfl hg6 rfl ?_
    refine sl_as rfl rfl rfl ?_
    refine sl_nil ?_
    refine sw_ret ⟨rfl, _, _, res_one rfl rfl, ?_, ⟨congrArg (fun b => D.val (.bool b)) (by first | rfl | exact decide_eq_true (by omega)), rfl⟩⟩
    repeat constructor
  refine sl_guard_y rfl rfl rfl hg6 ?_
  refine sl_mv rfl rfl rfl ?_
  refine sl_guard_y rfl rfl rfl hg6 ?_
  refine sl_mv rfl rfl rfl ?_
  refine sl_guard_y rfl rfl rfl hg6 ?_
  refine sl_len_str rfl rfl rfl u_9 ?_
  refine sl_guard_y rfl rfl rfl hg6 ?_
  refine sl_bin rfl rfl rfl rfl rfl ?_
  refine sl_pk_f rfl rfl rfl hg6 rfl ?_
  refine sl_as rfl rfl rfl ?_
  refine sl_nil ?_
  refine sw_ret ⟨rfl, _, _, res_one rfl rfl, ?_, ⟨congrArg (fun b => D.val (.bool b)) (by first | rfl | exact decide_eq_true (by omega)), rfl⟩⟩
  repeat constructor

end Go.Proofs.Ytioechdfghglhaa

/- Walks: printed by a program of this session out of its script LexF. -/
namespace Go.Proofs.Ytioechdfghglhaa
set_option linter.unusedVariables false
set_option linter.unusedSimpArgs false
set_option maxRecDepth 4000
set_option maxHeartbeats 4000000
open Go Go.RowKit SL


/-- digits tells a number's digits. -/
theorem digits_ok : ∀ (d : Nat) (σ : List Chunk), d < 18446744073709551616 → FSpec Try.prog 25 [.val (u64V d)] σ (fun r σ' => r = .val (.str (digs d)) ∧ σ' = σ) := by
  intro d
  induction d using Nat.strongRecOn with
  | ind d ih =>
  intro σ hd
  refine spec_of_sw Try.func25 rfl ?_
  refine sw_seq ?_
  refine sl_region ?_
  refine sl_as rfl rfl rfl ?_
  refine sl_nil ?_
  refine sw_seq ?_
  refine sw_seq ?_
  refine sl_region ?_
  refine sl_mv rfl rfl rfl ?_
  refine sl_bin rfl rfl rfl rfl rfl ?_
  refine sl_nil ?_
  refine sw_cond rfl (fun hc => ?_) (fun hc => ?_)
  · have hc1 : d < 10 := by have := of_decide_eq_true hc; omega
    refine sw_seq ?_
    refine sl_region ?_
    refine sl_mv rfl rfl rfl ?_
    refine sl_mv rfl rfl rfl ?_
    refine sl_bin rfl rfl rfl rfl rfl ?_
    refine sl_set 7 (.val (.int .u64 ((d + 1 : Nat) : Int))) (congrArg (fun z => D.val (.int .u64 z)) (by rw [wrap_u64 (by omega) (by omega)]; omega)) ?_
    refine sl_slice_str d (d + 1) rfl rfl rfl u_9 ⟨_, rfl⟩ ⟨_, rfl⟩ (by omega) (show d + 1 ≤ 10 by omega) ?_
    refine sl_as rfl rfl rfl ?_
    refine sl_nil ?_
    refine sw_ret ⟨rfl, _, _, res_one rfl rfl, ?_, ⟨congrArg (fun l => D.val (.str l)) (digit_part hc1), rfl⟩⟩
    repeat constructor
  have hc1 : ¬ d < 10 := by have := of_decide_eq_false hc; omega
  refine sw_skip ?_
  refine sw_seq ?_
  refine sl_region ?_
  refine sl_mv rfl rfl rfl ?_
  refine sl_div rfl rfl rfl rfl (by decide) ?_
  refine sl_set 10 (.val (u64V (d / 10))) (congrArg (fun z => D.val (.int .u64 z)) (by rw [show ((d : Nat) : Int).tdiv 10 = ((d / 10 : Nat) : Int) from (Int.ofNat_tdiv _ 10).symm, wrapped_u64 _ (by omega)])) ?_
  refine sl_callf rfl rfl cal_25 (ih (d / 10) (by omega) σ (by omega)) ?_ ?_ ?_ (fun _ _ h => h.elim)
  · repeat constructor
  · repeat constructor
  rintro _ _ ⟨rfl, hσ⟩
  have hσ2 := hσ.symm
  subst hσ2
  refine sl_mv rfl rfl rfl ?_
  refine sl_rem rfl rfl rfl rfl (by decide) ?_
  refine sl_set 13 (.val (u64V (d % 10))) (congrArg (fun z => D.val (.int .u64 z)) (Int.ofNat_tmod _ 10).symm) ?_
  refine sl_callf rfl rfl cal_25 (ih (d % 10) (by omega) σ (by omega)) ?_ ?_ ?_ (fun _ _ h => h.elim)
  · repeat constructor
  · repeat constructor
  rintro _ _ ⟨rfl, hσ⟩
  have hσ2 := hσ.symm
  subst hσ2
  have hl1 := digs_len 19 (d / 10) (Nat.lt_of_lt_of_le (by omega : d / 10 < 18446744073709551616) (by decide))
  have hl2 := digs_len 19 (d % 10) (Nat.lt_of_lt_of_le (by omega : d % 10 < 18446744073709551616) (by decide))
  refine sl_str_add rfl rfl rfl rfl (by omega) ?_
  refine sl_as rfl rfl rfl ?_
  refine sl_nil ?_
  refine sw_ret ⟨rfl, _, _, res_one rfl rfl, ?_, ⟨by rw [digs_ge hc1]; rfl, rfl⟩⟩
  repeat constructor


/-- LexBounds. -/
theorem lexBounds_ok (n : Int) (d : Nat) (h0 : 0 ≤ n) (h1 : n ≤ 255) (hd : d < 18446744073709551616) : FSpec Try.prog 4 [.val (.int .u8 n), .val (u64V d)] [] (fun d σ' => d = .val (.bool true) ∧ σ' = []) := by
  have ht6 : n.tmod 6 = ((n.toNat % 6 : Nat) : Int) := by rw [Int.tmod_eq_emod_of_nonneg h0]; omega
  have ht5 : n.tmod 5 = ((n.toNat % 5 : Nat) : Int) := by rw [Int.tmod_eq_emod_of_nonneg h0]; omega
  obtain ⟨K, hK⟩ : ∃ K : Nat, K = 29 + n.toNat % 6 := ⟨_, rfl⟩
  obtain ⟨M, hM⟩ : ∃ K : Nat, K = 4094 + n.toNat % 5 := ⟨_, rfl⟩
  refine spec_of_sw Try.func4 rfl ?_
  refine sw_seq ?_
  refine sl_region ?_
  refine sl_as rfl rfl rfl ?_
  refine sl_nil ?_
  refine sw_seq ?_
  refine sw_seq ?_
  refine sl_region ?_
  refine sl_callf rfl rfl cal_23 (known6_ok []) ?_ ?_ ?_ (fun _ _ h => h.elim)
  · repeat constructor
  · repeat constructor
  rintro _ _ ⟨rfl, rfl⟩
  refine sl_not rfl rfl rfl ?_
  refine sl_nil ?_
  refine sw_false rfl (rfl) ?_
  refine sw_skip ?_
  refine sw_seq ?_
  refine sl_region ?_
  refine sl_mv rfl rfl rfl ?_
  refine sl_rem rfl rfl rfl rfl (by decide) ?_
  refine sl_conv_int rfl rfl rfl is_5 u_3 ?_
  refine sl_set 24 (.val (.int .i64 ((n.toNat % 6 : Nat) : Int))) (by rw [ht6]; exact congrArg (fun z => D.val (.int .i64 z)) (wrap_i64 (by omega) (by omega))) ?_
  first
    | refine sl_inc rfl rfl rfl rfl (by omega) ?_
    | refine sl_add rfl rfl rfl rfl (by constructor <;> omega) ?_
    | refine sl_bin rfl rfl rfl rfl rfl ?_
  refine sl_set 25 (.val (.int .i64 ((K : Nat) : Int))) (congrArg (fun z => D.val (.int .i64 z)) (by rw [hK]; omega)) ?_
  refine sl_as rfl rfl rfl ?_
  refine sl_nil ?_
  refine sw_seq ?_
  refine sl_region ?_
  refine sl_mv rfl rfl rfl ?_
  refine sl_make rfl rfl rfl rfl u_26 el_5 zd_5 rfl (by omega) (fun W27 => ?_)
  refine sl_as rfl rfl rfl ?_
  refine sl_nil ?_
  refine sw_seq ?_
  refine sw_seq ?_
  refine sl_region ?_
  refine sl_as rfl rfl rfl ?_
  refine sl_nil ?_
  refine sw_block ?_
  rw [zero_rows]
  refine sw_loopw (fun nX sX δX σX => ∃ (i : Nat), (K - i) = nX ∧ sX = ⟨122, (.cons 0 (.val (.int .u8 n)) (.cons 1 (.val (u64V d)) (.cons 5 (.val (.int .i64 ((K : Nat) : Int))) (.cons 6 (W27.d) (.cons 7 (.val (.int .i64 (i : Int))) .nil)))))⟩ ∧ δX = [] ∧ σX = W27.k (brows (mix (fun _ => 120) (List.replicate K 0) i)) :: [] ∧ (i ≤ K)) ?_ ?_
  · refine ⟨_, _, _, ?_, ?_, 0, rfl, rfl, rfl, rfl, (Nat.zero_le _)⟩
    · exact ⟨rfl, by repeat constructor⟩
    · repeat constructor
  rintro nX sX δX σX ⟨i, rfl, rfl, rfl, rfl, hi⟩
  refine sw_seq ?_
  refine sw_seq ?_
  refine sl_region ?_
  refine sl_mv rfl rfl rfl ?_
  refine sl_mv rfl rfl rfl ?_
  refine sl_bin rfl rfl rfl rfl rfl ?_
  refine sl_nil ?_
  refine sw_cond rfl (fun hc => ?_) (fun hc => ?_)
  · have hc1 : i < K := by have := of_decide_eq_true hc; omega
    have hlt : i < (List.replicate K (0 : UInt8)).length := by rw [List.length_replicate]; exact hc1
    refine sw_skip ?_
    refine sw_seq ?_
    refine sw_block ?_
    refine sl_region ?_
    refine sl_mv rfl rfl rfl ?_
    refine sl_mv rfl rfl rfl ?_
    refine sl_index_w _ (i) rfl rfl rfl rfl u_26 sz_5 (hc1) ?_
    refine sl_store_w _ (i) 0 rfl rfl rfl rfl sz_5 rfl rfl rfl (by repeat constructor) (by rw [brows_len, mix_len, List.length_replicate]) (brows_ok _) (rows_map_get (mix_get _ hlt)) (Nat.le_of_ble_eq_true rfl) ((rows_map_set (f := byteV) (a := (fun _ => (120 : UInt8)) (List.replicate K (0 : UInt8))[i]) rfl).trans (by rw [mix_set (fun _ => (120 : UInt8)) hlt])) ?_
    refine sl_nil ?_
    refine sl_region ?_
    refine sl_mv rfl rfl rfl ?_
    first
      | refine sl_inc rfl rfl rfl rfl (by omega) ?_
      | refine sl_add rfl rfl rfl rfl (by constructor <;> omega) ?_
      | refine sl_bin rfl rfl rfl rfl rfl ?_
    refine sl_as rfl rfl rfl ?_
    refine sl_nil ?_
    refine ⟨_, by omega, _, _, ?_, ?_, i + 1, rfl, rfl, rfl, rfl, (by omega)⟩
    · exact ⟨rfl, by repeat constructor⟩
    · repeat constructor
  have hc1 : i = K := by have := of_decide_eq_false hc; omega
  rw [hc1, mix_const]
  refine sw_exit ?_
  refine sw_seq ?_
  refine sw_freeze_w (t := 6) W27 rfl (by repeat constructor) (by simp) (by repeat constructor) ?_
  refine sl_region ?_
  refine sl_mv rfl rfl rfl ?_
  refine sl_bytes_str rfl rfl rfl u_26 u_5 u_9 ?_
  refine sl_str_add rfl rfl rfl rfl (by simp only [List.length_replicate, List.length_cons, List.length_nil]; omega) ?_
  refine sl_callf rfl rfl cal_24 (tokens_ok ([32] ++ List.replicate K 120) [] (by simp; omega)) ?_ ?_ ?_ (fun _ _ h => h.elim)
  · repeat constructor
  · repeat constructor
  rintro _ _ ⟨rfl, rfl⟩
  rw [toks_name (by omega) (by omega)]
  refine sl_mv rfl rfl rfl ?_
  refine sl_extract rfl rfl rfl rfl ?_
  refine sl_extract rfl rfl rfl rfl ?_
  refine sl_extract rfl rfl rfl rfl ?_
  refine sl_as rfl rfl rfl ?_
  refine sl_as rfl rfl rfl ?_
  refine sl_as rfl rfl rfl ?_
  refine sl_nil ?_
  refine sw_seq ?_
  refine sl_region ?_
  refine sl_mv rfl rfl rfl ?_
  refine sl_callf rfl rfl cal_25 (digits_ok d [] hd) ?_ ?_ ?_ (fun _ _ h => h.elim)
  · repeat constructor
  · repeat constructor
  rintro _ _ ⟨rfl, rfl⟩
  have hdl := digs_len 19 d (Nat.lt_of_lt_of_le hd (by decide))
  refine sl_as rfl rfl rfl ?_
  refine sl_nil ?_
  refine sw_seq ?_
  refine sl_region ?_
  refine sl_mv rfl rfl rfl ?_
  refine sl_callf rfl rfl cal_24 (tokens_ok (digs d) [] (by omega)) ?_ ?_ ?_ (fun _ _ h => h.elim)
  · repeat constructor
  · repeat constructor
  rintro _ _ ⟨rfl, rfl⟩
  refine sl_mv rfl rfl rfl ?_
  refine sl_extract rfl rfl rfl rfl ?_
  refine sl_extract rfl rfl rfl rfl ?_
  refine sl_extract rfl rfl rfl rfl ?_
  refine sl_as rfl rfl rfl ?_
  refine sl_as rfl rfl rfl ?_
  refine sl_as rfl rfl rfl ?_
  refine sl_nil ?_
  refine sw_seq ?_
  refine sl_region ?_
  refine sl_mv rfl rfl rfl ?_
  refine sl_rem rfl rfl rfl rfl (by decide) ?_
  refine sl_conv_int rfl rfl rfl is_5 u_3 ?_
  refine sl_set 54 (.val (.int .i64 ((n.toNat % 5 : Nat) : Int))) (by rw [ht5]; exact congrArg (fun z => D.val (.int .i64 z)) (wrap_i64 (by omega) (by omega))) ?_
  first
    | refine sl_inc rfl rfl rfl rfl (by omega) ?_
    | refine sl_add rfl rfl rfl rfl (by constructor <;> omega) ?_
    | refine sl_bin rfl rfl rfl rfl rfl ?_
  refine sl_set 55 (.val (.int .i64 ((M : Nat) : Int))) (congrArg (fun z => D.val (.int .i64 z)) (by rw [hM]; omega)) ?_
  refine sl_make rfl rfl rfl rfl u_26 el_5 zd_5 rfl (by omega) (fun W56 => ?_)
  refine sl_as rfl rfl rfl ?_
  refine sl_nil ?_
  refine sw_seq ?_
  refine sw_seq ?_
  refine sl_region ?_
  refine sl_as rfl rfl rfl ?_
  refine sl_nil ?_
  refine sw_block ?_
  rw [zero_rows]
  obtain ⟨T, hT⟩ : ∃ T, T = (if 32 < K then (([], 1, 53) : List Tok × Nat × Int) else ([⟨0, part ([32] ++ List.replicate K 120) 1 (K + 1), 1⟩], 0, 0)) := ⟨_, rfl⟩
  rw [← hT]
  refine sw_loopw (fun nX sX δX σX => ∃ (j : Nat), (M - j) = nX ∧ sX = ⟨122, (.cons 1 (.val (u64V d)) (.cons 5 (.val (.int .i64 ((K : Nat) : Int))) (.cons 9 (.val (.int .i64 (T.2.1 : Int))) (.cons 10 (.val (.int .i64 T.2.2)) (.cons 11 (.val (.str (digs d))) (.cons 12 (.val (.list ((toks (digs d)).1.map tokV))) (.cons 13 (.val (.int .i64 ((toks (digs d)).2.1 : Int))) (.cons 14 (.val (.int .i64 (toks (digs d)).2.2)) (.cons 15 (W56.d) (.cons 16 (.val (.int .i64 (j : Int))) .nil))))))))))⟩ ∧ δX = [] ∧ σX = W56.k (brows (mix (fun _ => 32) (List.replicate M 0) j)) :: [] ∧ (j ≤ M)) ?_ ?_
  · refine ⟨_, _, _, ?_, ?_, 0, rfl, rfl, rfl, rfl, (Nat.zero_le _)⟩
    · exact ⟨rfl, by repeat constructor⟩
    · repeat constructor
  rintro nX sX δX σX ⟨j, rfl, rfl, rfl, rfl, hj⟩
  refine sw_seq ?_
  refine sw_seq ?_
  refine sl_region ?_
  refine sl_mv rfl rfl rfl ?_
  refine sl_mv rfl rfl rfl ?_
  first
    | refine sl_len rfl rfl rfl ⟨_, u_26⟩ ?_
    | refine sl_len_sl rfl rfl rfl ⟨_, u_26⟩ ?_
    | refine sl_len_w _ rfl rfl rfl ⟨_, u_26⟩ ?_
  refine sl_bin rfl rfl rfl rfl rfl ?_
  refine sl_nil ?_
  refine sw_cond rfl (fun hc2 => ?_) (fun hc2 => ?_)
  · have hc3 : j < M := by have := of_decide_eq_true hc2; omega
    have hlt : j < (List.replicate M (0 : UInt8)).length := by rw [List.length_replicate]; exact hc3
    refine sw_skip ?_
    refine sw_seq ?_
    refine sw_block ?_
    refine sl_region ?_
    refine sl_mv rfl rfl rfl ?_
    refine sl_mv rfl rfl rfl ?_
    refine sl_index_w _ (j) rfl rfl rfl rfl u_26 sz_5 (hc3) ?_
    refine sl_store_w _ (j) 0 rfl rfl rfl rfl sz_5 rfl rfl rfl (by repeat constructor) (by rw [brows_len, mix_len, List.length_replicate]) (brows_ok _) (rows_map_get (mix_get _ hlt)) (Nat.le_of_ble_eq_true rfl) ((rows_map_set (f := byteV) (a := (fun _ => (32 : UInt8)) (List.replicate M (0 : UInt8))[j]) rfl).trans (by rw [mix_set (fun _ => (32 : UInt8)) hlt])) ?_
    refine sl_nil ?_
    refine sl_region ?_
    refine sl_mv rfl rfl rfl ?_
    first
      | refine sl_inc rfl rfl rfl rfl (by omega) ?_
      | refine sl_add rfl rfl rfl rfl (by constructor <;> omega) ?_
      | refine sl_bin rfl rfl rfl rfl rfl ?_
    refine sl_as rfl rfl rfl ?_
    refine sl_nil ?_
    refine ⟨_, by omega, _, _, ?_, ?_, j + 1, rfl, rfl, rfl, rfl, (by omega)⟩
    · exact ⟨rfl, by repeat constructor⟩
    · repeat constructor
  have hc3 : j = M := by have := of_decide_eq_false hc2; omega
  rw [hc3, mix_const]
  refine sw_exit ?_
  refine sw_seq ?_
  refine sw_freeze_w (t := 15) W56 rfl (by repeat constructor) (by simp) (by repeat constructor) ?_
  refine sl_region ?_
  refine sl_mv rfl rfl rfl ?_
  refine sl_bytes_str rfl rfl rfl u_26 u_5 u_9 ?_
  refine sl_callf rfl rfl cal_24 (tokens_ok (List.replicate M 32) [] (by rw [List.length_replicate]; omega)) ?_ ?_ ?_ (fun _ _ h => h.elim)
  · repeat constructor
  · repeat constructor
  rintro _ _ ⟨rfl, rfl⟩
  by_cases hKb : 32 < K
  · rw [if_pos hKb] at hT
    subst hT
    refine sl_mv rfl rfl rfl ?_
    refine sl_extract rfl rfl rfl rfl ?_
    refine sl_extract rfl rfl rfl rfl ?_
    refine sl_extract rfl rfl rfl rfl ?_
    refine sl_as rfl rfl rfl ?_
    refine sl_as rfl rfl rfl ?_
    refine sl_as rfl rfl rfl ?_
    refine sl_nil ?_
    refine sw_seq ?_
    refine sw_seq ?_
    refine sl_region ?_
    refine sl_mv rfl rfl rfl ?_
    refine sl_bin rfl rfl rfl rfl rfl ?_
    refine sl_set 74 (.val (.bool true)) (congrArg (fun b => D.val (.bool b)) (decide_eq_true (by omega))) ?_
    refine sl_mv rfl rfl rfl ?_
    refine sl_guard_y rfl rfl rfl (rfl) ?_
    refine sl_mv rfl rfl rfl ?_
    refine sl_guard_y rfl rfl rfl (rfl) ?_
    refine sl_bin rfl rfl rfl rfl rfl ?_
    refine sl_guard_y rfl rfl rfl (rfl) ?_
    refine sl_mv rfl rfl rfl ?_
    refine sl_guard_y rfl rfl rfl (rfl) ?_
    refine sl_mv rfl rfl rfl ?_
    refine sl_guard_y rfl rfl rfl (rfl) ?_
    refine sl_bin rfl rfl rfl rfl rfl ?_
    refine sl_guard_y rfl rfl rfl (rfl) ?_
    refine sl_pk_f rfl rfl rfl (rfl) rfl ?_
    refine sl_pk_t rfl rfl rfl (rfl) rfl ?_
    refine sl_mv rfl rfl rfl ?_
    refine sl_guard_y rfl rfl rfl (rfl) ?_
    refine sl_mv rfl rfl rfl ?_
    refine sl_guard_y rfl rfl rfl (rfl) ?_
    refine sl_bin rfl rfl rfl rfl rfl ?_
    refine sl_set 85 (.val (.bool false)) (congrArg (fun b => D.val (.bool b)) (decide_eq_false (by omega))) ?_
    refine sl_guard_y rfl rfl rfl (rfl) ?_
    refine sl_mv rfl rfl rfl ?_
    refine sl_guard_n rfl rfl rfl (rfl) ?_
    refine sl_guard_n rfl rfl rfl (rfl) ?_
    refine sl_guard_y rfl rfl rfl (rfl) ?_
    refine sl_pk_f rfl rfl rfl (rfl) rfl ?_
    refine sl_pk_f rfl rfl rfl (rfl) rfl ?_
    refine sl_mv rfl rfl rfl ?_
    refine sl_guard_y rfl rfl rfl (rfl) ?_
    refine sl_mv rfl rfl rfl ?_
    refine sl_guard_y rfl rfl rfl (rfl) ?_
    refine sl_bin rfl rfl rfl rfl rfl ?_
    refine sl_guard_y rfl rfl rfl (rfl) ?_
    refine sl_mv rfl rfl rfl ?_
    refine sl_guard_y rfl rfl rfl (rfl) ?_
    first
      | refine sl_len rfl rfl rfl ⟨_, u_26⟩ ?_
      | refine sl_len_sl rfl rfl rfl ⟨_, u_26⟩ ?_
      | refine sl_len_w _ rfl rfl rfl ⟨_, u_26⟩ ?_
    refine sl_guard_y rfl rfl rfl (rfl) ?_
    refine sl_bin rfl rfl rfl rfl rfl ?_
    refine sl_guard_y rfl rfl rfl (rfl) ?_
    refine sl_bool_ne rfl rfl rfl rfl u_4 ?_
    refine sl_set 97 (.val (.bool false)) (congrArg (fun b => D.val (.bool b)) (toks_spaces M)) ?_
    refine sl_pk_f rfl rfl rfl (rfl) rfl ?_
    refine sl_nil ?_
    refine sw_false rfl (rfl) ?_
    refine sw_skip ?_
    refine sw_seq ?_
    refine sw_seq ?_
    refine sl_region ?_
    refine sl_mv rfl rfl rfl ?_
    refine sl_bin rfl rfl rfl rfl rfl ?_
    refine sl_nil ?_
    refine sw_cond rfl (fun hdb => ?_) (fun hdb => ?_)
    · have hdb1 : 9223372036854775807 < d := by have := of_decide_eq_true hdb; omega
      rw [toks_digits hd, if_pos hdb1]
      refine sw_seq ?_
      refine sl_region ?_
      refine sl_mv rfl rfl rfl ?_
      refine sl_bin rfl rfl rfl rfl rfl ?_
      refine sl_mv rfl rfl rfl ?_
      refine sl_guard_y rfl rfl rfl (rfl) ?_
      refine sl_mv rfl rfl rfl ?_
      refine sl_guard_y rfl rfl rfl (rfl) ?_
      refine sl_bin rfl rfl rfl rfl rfl ?_
      refine sl_pk_t rfl rfl rfl (rfl) rfl ?_
      refine sl_as rfl rfl rfl ?_
      refine sl_nil ?_
      refine sw_ret ⟨rfl, _, _, res_one rfl rfl, ?_, ⟨rfl, rfl⟩⟩
      repeat constructor
    have hdb1 : ¬ 9223372036854775807 < d := by have := of_decide_eq_false hdb; omega
    rw [toks_digits hd, if_neg hdb1]
    refine sw_skip ?_
    refine sw_seq ?_
    refine sl_region ?_
    refine sl_mv rfl rfl rfl ?_
    refine sl_bin rfl rfl rfl rfl rfl ?_
    refine sl_mv rfl rfl rfl ?_
    refine sl_guard_y rfl rfl rfl (rfl) ?_
    refine sl_mv rfl rfl rfl ?_
    refine sl_guard_y rfl rfl rfl (rfl) ?_
    first
      | refine sl_len rfl rfl rfl ⟨_, u_40⟩ ?_
      | refine sl_len_sl rfl rfl rfl ⟨_, u_40⟩ ?_
      | refine sl_len_w _ rfl rfl rfl ⟨_, u_40⟩ ?_
    refine sl_guard_y rfl rfl rfl (rfl) ?_
    refine sl_bin rfl rfl rfl rfl rfl ?_
    refine sl_pk_t rfl rfl rfl (rfl) rfl ?_
    refine sl_mv rfl rfl rfl ?_
    refine sl_guard_y rfl rfl rfl (rfl) ?_
    refine sl_mv rfl rfl rfl ?_
    refine sl_guard_y rfl rfl rfl (rfl) ?_
    refine sl_indexAddr' rfl rfl rfl rfl u_40 sz_45 (by decide) rfl rfl ?_
    refine sl_guard_y rfl rfl rfl (rfl) ?_
    first
      | refine sl_fieldAddr_ptr rfl rfl rfl fo_45_1 ?_
      | refine sl_fieldAddr_rp rfl rfl rfl fo_45_1 ?_
      | refine sl_fieldAddr_ref rfl rfl rfl fo_45_1 ?_
    refine sl_guard_y rfl rfl rfl (rfl) ?_
    first
      | refine sl_load_rp1 rfl rfl rfl ag_9 rfl ?_
      | refine sl_load_blk1 rfl rfl rfl ag_9 (by repeat constructor) rfl ?_
    refine sl_guard_y rfl rfl rfl (rfl) ?_
    refine sl_mv rfl rfl rfl ?_
    refine sl_guard_y rfl rfl rfl (rfl) ?_
    refine sl_str rfl rfl rfl rfl rfl ?_
    refine sl_pk_t rfl rfl rfl (rfl) rfl ?_
    refine sl_as rfl rfl rfl ?_
    refine sl_nil ?_
    refine sw_ret ⟨rfl, _, _, res_one rfl rfl, ?_, ⟨self_str _, rfl⟩⟩
    repeat constructor
  rw [if_neg hKb] at hT
  subst hT
  refine sl_mv rfl rfl rfl ?_
  refine sl_extract rfl rfl rfl rfl ?_
  refine sl_extract rfl rfl rfl rfl ?_
  refine sl_extract rfl rfl rfl rfl ?_
  refine sl_as rfl rfl rfl ?_
  refine sl_as rfl rfl rfl ?_
  refine sl_as rfl rfl rfl ?_
  refine sl_nil ?_
  refine sw_seq ?_
  refine sw_seq ?_
  refine sl_region ?_
  refine sl_mv rfl rfl rfl ?_
  refine sl_bin rfl rfl rfl rfl rfl ?_
  refine sl_set 74 (.val (.bool false)) (congrArg (fun b => D.val (.bool b)) (decide_eq_false (by omega))) ?_
  refine sl_mv rfl rfl rfl ?_
  refine sl_guard_n rfl rfl rfl (rfl) ?_
  refine sl_guard_n rfl rfl rfl (rfl) ?_
  refine sl_guard_n rfl rfl rfl (rfl) ?_
  refine sl_guard_u rfl rfl rfl ?_
  refine sl_guard_u rfl rfl rfl ?_
  refine sl_guard_n rfl rfl rfl (rfl) ?_
  refine sl_pk_f rfl rfl rfl (rfl) rfl ?_
  refine sl_mv rfl rfl rfl ?_
  refine sl_guard_y rfl rfl rfl (rfl) ?_
  refine sl_mv rfl rfl rfl ?_
  refine sl_guard_y rfl rfl rfl (rfl) ?_
  refine sl_bin rfl rfl rfl rfl rfl ?_
  refine sl_set 85 (.val (.bool true)) (congrArg (fun b => D.val (.bool b)) (decide_eq_true (by omega))) ?_
  refine sl_guard_y rfl rfl rfl (rfl) ?_
  refine sl_mv rfl rfl rfl ?_
  refine sl_guard_y rfl rfl rfl (rfl) ?_
  refine sl_mv rfl rfl rfl ?_
  refine sl_guard_y rfl rfl rfl (rfl) ?_
  refine sl_bin rfl rfl rfl rfl rfl ?_
  refine sl_guard_y rfl rfl rfl (rfl) ?_
  refine sl_pk_t rfl rfl rfl (rfl) rfl ?_
  refine sl_pk_f rfl rfl rfl (rfl) rfl ?_
  refine sl_mv rfl rfl rfl ?_
  refine sl_guard_y rfl rfl rfl (rfl) ?_
  refine sl_mv rfl rfl rfl ?_
  refine sl_guard_y rfl rfl rfl (rfl) ?_
  refine sl_bin rfl rfl rfl rfl rfl ?_
  refine sl_guard_y rfl rfl rfl (rfl) ?_
  refine sl_mv rfl rfl rfl ?_
  refine sl_guard_y rfl rfl rfl (rfl) ?_
  first
    | refine sl_len rfl rfl rfl ⟨_, u_26⟩ ?_
    | refine sl_len_sl rfl rfl rfl ⟨_, u_26⟩ ?_
    | refine sl_len_w _ rfl rfl rfl ⟨_, u_26⟩ ?_
  refine sl_guard_y rfl rfl rfl (rfl) ?_
  refine sl_bin rfl rfl rfl rfl rfl ?_
  refine sl_guard_y rfl rfl rfl (rfl) ?_
  refine sl_bool_ne rfl rfl rfl rfl u_4 ?_
  refine sl_set 97 (.val (.bool false)) (congrArg (fun b => D.val (.bool b)) (toks_spaces M)) ?_
  refine sl_pk_f rfl rfl rfl (rfl) rfl ?_
  refine sl_nil ?_
  refine sw_false rfl (rfl) ?_
  refine sw_skip ?_
  refine sw_seq ?_
  refine sw_seq ?_
  refine sl_region ?_
  refine sl_mv rfl rfl rfl ?_
  refine sl_bin rfl rfl rfl rfl rfl ?_
  refine sl_nil ?_
  refine sw_cond rfl (fun hdb => ?_) (fun hdb => ?_)
  · have hdb1 : 9223372036854775807 < d := by have := of_decide_eq_true hdb; omega
    rw [toks_digits hd, if_pos hdb1]
    refine sw_seq ?_
    refine sl_region ?_
    refine sl_mv rfl rfl rfl ?_
    refine sl_bin rfl rfl rfl rfl rfl ?_
    refine sl_mv rfl rfl rfl ?_
    refine sl_guard_y rfl rfl rfl (rfl) ?_
    refine sl_mv rfl rfl rfl ?_
    refine sl_guard_y rfl rfl rfl (rfl) ?_
    refine sl_bin rfl rfl rfl rfl rfl ?_
    refine sl_pk_t rfl rfl rfl (rfl) rfl ?_
    refine sl_as rfl rfl rfl ?_
    refine sl_nil ?_
    refine sw_ret ⟨rfl, _, _, res_one rfl rfl, ?_, ⟨rfl, rfl⟩⟩
    repeat constructor
  have hdb1 : ¬ 9223372036854775807 < d := by have := of_decide_eq_false hdb; omega
  rw [toks_digits hd, if_neg hdb1]
  refine sw_skip ?_
  refine sw_seq ?_
  refine sl_region ?_
  refine sl_mv rfl rfl rfl ?_
  refine sl_bin rfl rfl rfl rfl rfl ?_
  refine sl_mv rfl rfl rfl ?_
  refine sl_guard_y rfl rfl rfl (rfl) ?_
  refine sl_mv rfl rfl rfl ?_
  refine sl_guard_y rfl rfl rfl (rfl) ?_
  first
    | refine sl_len rfl rfl rfl ⟨_, u_40⟩ ?_
    | refine sl_len_sl rfl rfl rfl ⟨_, u_40⟩ ?_
    | refine sl_len_w _ rfl rfl rfl ⟨_, u_40⟩ ?_
  refine sl_guard_y rfl rfl rfl (rfl) ?_
  refine sl_bin rfl rfl rfl rfl rfl ?_
  refine sl_pk_t rfl rfl rfl (rfl) rfl ?_
  refine sl_mv rfl rfl rfl ?_
  refine sl_guard_y rfl rfl rfl (rfl) ?_
  refine sl_mv rfl rfl rfl ?_
  refine sl_guard_y rfl rfl rfl (rfl) ?_
  refine sl_indexAddr' rfl rfl rfl rfl u_40 sz_45 (by decide) rfl rfl ?_
  refine sl_guard_y rfl rfl rfl (rfl) ?_
  first
    | refine sl_fieldAddr_ptr rfl rfl rfl fo_45_1 ?_
    | refine sl_fieldAddr_rp rfl rfl rfl fo_45_1 ?_
    | refine sl_fieldAddr_ref rfl rfl rfl fo_45_1 ?_
  refine sl_guard_y rfl rfl rfl (rfl) ?_
  first
    | refine sl_load_rp1 rfl rfl rfl ag_9 rfl ?_
    | refine sl_load_blk1 rfl rfl rfl ag_9 (by repeat constructor) rfl ?_
  refine sl_guard_y rfl rfl rfl (rfl) ?_
  refine sl_mv rfl rfl rfl ?_
  refine sl_guard_y rfl rfl rfl (rfl) ?_
  refine sl_str rfl rfl rfl rfl rfl ?_
  refine sl_pk_t rfl rfl rfl (rfl) rfl ?_
  refine sl_as rfl rfl rfl ?_
  refine sl_nil ?_
  refine sw_ret ⟨rfl, _, _, res_one rfl rfl, ?_, ⟨self_str _, rfl⟩⟩
  repeat constructor

end Go.Proofs.Ytioechdfghglhaa
