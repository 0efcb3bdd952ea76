/- Merged: the program logic, plain laws and walks (each part's first row says what it is); no conditions of its own. -/
import Derived.Test.YtioechdfghglhaaZ2
import Derived.Test.YtioechdfghglhaaProg
import Derived.Test.YtioechdfghglhaaZ3

/- What the type table says: printed by a program of this session. -/
namespace Go.Proofs.Ytioechdfghglhaa
open Go Go.RowKit SL

theorem ag_127 : aggOf Try.prog 127 = some true := by kernel_rfl
theorem ag_2 : aggOf Try.prog 2 = some false := by kernel_rfl
theorem ag_26 : aggOf Try.prog 26 = some false := by kernel_rfl
theorem ag_3 : aggOf Try.prog 3 = some false := by kernel_rfl
theorem ag_31 : aggOf Try.prog 31 = some false := by kernel_rfl
theorem ag_35 : aggOf Try.prog 35 = some false := by kernel_rfl
theorem ag_37 : aggOf Try.prog 37 = some false := by kernel_rfl
theorem ag_4 : aggOf Try.prog 4 = some false := by kernel_rfl
theorem ag_5 : aggOf Try.prog 5 = some false := by kernel_rfl
theorem ag_67 : aggOf Try.prog 67 = some false := by kernel_rfl
theorem ag_69 : aggOf Try.prog 69 = some true := by kernel_rfl
theorem ag_70 : aggOf Try.prog 70 = some false := by kernel_rfl
theorem ag_72 : aggOf Try.prog 72 = some true := by kernel_rfl
theorem ag_74 : aggOf Try.prog 74 = some true := by kernel_rfl
theorem ag_86 : aggOf Try.prog 86 = some true := by kernel_rfl
theorem ag_89 : aggOf Try.prog 89 = some true := by kernel_rfl
theorem ag_9 : aggOf Try.prog 9 = some false := by kernel_rfl
theorem ag_97 : aggOf Try.prog 97 = some true := by kernel_rfl
theorem bi_113 : buildInfo Try.prog 113 = some [(0, 1), (1, 1)] := by kernel_rfl
theorem bi_127 : buildInfo Try.prog 127 = some [(0, 1), (1, 3)] := by kernel_rfl
theorem bi_133 : buildInfo Try.prog 133 = some [(0, 1), (1, 1)] := by kernel_rfl
theorem bi_138 : buildInfo Try.prog 138 = some [] := by kernel_rfl
theorem bi_30 : buildInfo Try.prog 30 = some [(0, 1)] := by kernel_rfl
theorem bi_69 : buildInfo Try.prog 69 = some [(0, 1), (1, 1), (2, 1)] := by kernel_rfl
theorem bi_72 : buildInfo Try.prog 72 = some [(0, 1), (1, 1), (2, 3), (5, 1)] := by kernel_rfl
theorem bi_80 : buildInfo Try.prog 80 = some [(0, 1), (1, 1)] := by kernel_rfl
theorem bi_86 : buildInfo Try.prog 86 = some [(0, 1), (1, 1)] := by kernel_rfl
theorem bi_89 : buildInfo Try.prog 89 = some [(0, 1), (1, 1), (2, 1), (3, 1)] := by kernel_rfl
theorem bi_97 : buildInfo Try.prog 97 = some [(0, 1), (1, 1), (2, 1), (3, 1), (4, 1), (5, 1)] := by kernel_rfl
theorem cal_100 : callable Try.prog 100 = true := by kernel_rfl
theorem cal_101 : callable Try.prog 101 = true := by kernel_rfl
theorem cal_102 : callable Try.prog 102 = true := by kernel_rfl
theorem cal_15 : callable Try.prog 15 = true := by kernel_rfl
theorem cal_16 : callable Try.prog 16 = true := by kernel_rfl
theorem cal_17 : callable Try.prog 17 = true := by kernel_rfl
theorem cal_18 : callable Try.prog 18 = true := by kernel_rfl
theorem cal_19 : callable Try.prog 19 = true := by kernel_rfl
theorem cal_20 : callable Try.prog 20 = true := by kernel_rfl
theorem cal_21 : callable Try.prog 21 = true := by kernel_rfl
theorem cal_22 : callable Try.prog 22 = true := by kernel_rfl
theorem cal_28 : callable Try.prog 28 = true := by kernel_rfl
theorem cal_29 : callable Try.prog 29 = true := by kernel_rfl
theorem cal_30 : callable Try.prog 30 = true := by kernel_rfl
theorem cal_31 : callable Try.prog 31 = true := by kernel_rfl
theorem cal_32 : callable Try.prog 32 = true := by kernel_rfl
theorem cal_33 : callable Try.prog 33 = true := by kernel_rfl
theorem cal_34 : callable Try.prog 34 = true := by kernel_rfl
theorem cal_35 : callable Try.prog 35 = true := by kernel_rfl
theorem cal_36 : callable Try.prog 36 = true := by kernel_rfl
theorem cal_37 : callable Try.prog 37 = true := by kernel_rfl
theorem cal_38 : callable Try.prog 38 = true := by kernel_rfl
theorem cal_39 : callable Try.prog 39 = true := by kernel_rfl
theorem cal_40 : callable Try.prog 40 = true := by kernel_rfl
theorem cal_41 : callable Try.prog 41 = true := by kernel_rfl
theorem cal_42 : callable Try.prog 42 = true := by kernel_rfl
theorem cal_43 : callable Try.prog 43 = true := by kernel_rfl
theorem cal_44 : callable Try.prog 44 = true := by kernel_rfl
theorem cal_45 : callable Try.prog 45 = true := by kernel_rfl
theorem cal_46 : callable Try.prog 46 = true := by kernel_rfl
theorem cal_47 : callable Try.prog 47 = true := by kernel_rfl
theorem cal_48 : callable Try.prog 48 = true := by kernel_rfl
theorem cal_49 : callable Try.prog 49 = true := by kernel_rfl
theorem cal_50 : callable Try.prog 50 = true := by kernel_rfl
theorem cal_51 : callable Try.prog 51 = true := by kernel_rfl
theorem cal_52 : callable Try.prog 52 = true := by kernel_rfl
theorem cal_53 : callable Try.prog 53 = true := by kernel_rfl
theorem cal_54 : callable Try.prog 54 = true := by kernel_rfl
theorem cal_55 : callable Try.prog 55 = true := by kernel_rfl
theorem cal_56 : callable Try.prog 56 = true := by kernel_rfl
theorem cal_57 : callable Try.prog 57 = true := by kernel_rfl
theorem cal_58 : callable Try.prog 58 = true := by kernel_rfl
theorem cal_59 : callable Try.prog 59 = true := by kernel_rfl
theorem cal_60 : callable Try.prog 60 = true := by kernel_rfl
theorem cal_61 : callable Try.prog 61 = true := by kernel_rfl
theorem cal_62 : callable Try.prog 62 = true := by kernel_rfl
theorem cal_70 : callable Try.prog 70 = true := by kernel_rfl
theorem cal_71 : callable Try.prog 71 = true := by kernel_rfl
theorem cal_72 : callable Try.prog 72 = true := by kernel_rfl
theorem cal_73 : callable Try.prog 73 = true := by kernel_rfl
theorem cal_74 : callable Try.prog 74 = true := by kernel_rfl
theorem cal_75 : callable Try.prog 75 = true := by kernel_rfl
theorem cal_76 : callable Try.prog 76 = true := by kernel_rfl
theorem cal_77 : callable Try.prog 77 = true := by kernel_rfl
theorem cal_78 : callable Try.prog 78 = true := by kernel_rfl
theorem cal_79 : callable Try.prog 79 = true := by kernel_rfl
theorem cal_80 : callable Try.prog 80 = true := by kernel_rfl
theorem cal_81 : callable Try.prog 81 = true := by kernel_rfl
theorem cal_82 : callable Try.prog 82 = true := by kernel_rfl
theorem cal_83 : callable Try.prog 83 = true := by kernel_rfl
theorem cal_84 : callable Try.prog 84 = true := by kernel_rfl
theorem cal_85 : callable Try.prog 85 = true := by kernel_rfl
theorem cal_86 : callable Try.prog 86 = true := by kernel_rfl
theorem cal_87 : callable Try.prog 87 = true := by kernel_rfl
theorem cal_88 : callable Try.prog 88 = true := by kernel_rfl
theorem cal_89 : callable Try.prog 89 = true := by kernel_rfl
theorem cal_90 : callable Try.prog 90 = true := by kernel_rfl
theorem cal_91 : callable Try.prog 91 = true := by kernel_rfl
theorem cal_92 : callable Try.prog 92 = true := by kernel_rfl
theorem cal_98 : callable Try.prog 98 = true := by kernel_rfl
theorem cal_99 : callable Try.prog 99 = true := by kernel_rfl
theorem eg_127 : Try.prog.eqGuardType Try.prog.depth 127 = false := by kernel_rfl
theorem eg_69 : Try.prog.eqGuardType Try.prog.depth 69 = false := by kernel_rfl
theorem eg_86 : Try.prog.eqGuardType Try.prog.depth 86 = false := by kernel_rfl
theorem ek_127 : eqKs Try.prog 9 127 = some [.str, .bool, .int .i64, .int .i64] := by kernel_rfl
theorem ek_69 : eqKs Try.prog 9 69 = some [.bool, .int .i64, .int .i64] := by kernel_rfl
theorem ek_86 : eqKs Try.prog 9 86 = some [.int .i64, .int .i64] := by kernel_rfl
theorem el_127 : elOf Try.prog 127 = some (4, 40) := by kernel_rfl
theorem el_3 : elOf Try.prog 3 = some (1, 8) := by kernel_rfl
theorem el_5 : elOf Try.prog 5 = some (1, 1) := by kernel_rfl
theorem el_86 : elOf Try.prog 86 = some (2, 16) := by kernel_rfl
theorem el_9 : elOf Try.prog 9 = some (1, 16) := by kernel_rfl
theorem fo_113_0 : fieldOff Try.prog 113 0 = some 0 := by kernel_rfl
theorem fo_113_1 : fieldOff Try.prog 113 1 = some 1 := by kernel_rfl
theorem fo_127_0 : fieldOff Try.prog 127 0 = some 0 := by kernel_rfl
theorem fo_127_1 : fieldOff Try.prog 127 1 = some 1 := by kernel_rfl
theorem fo_133_0 : fieldOff Try.prog 133 0 = some 0 := by kernel_rfl
theorem fo_133_1 : fieldOff Try.prog 133 1 = some 1 := by kernel_rfl
theorem fo_28_0 : fieldOff Try.prog 28 0 = some 0 := by kernel_rfl
theorem fo_30_0 : fieldOff Try.prog 30 0 = some 0 := by kernel_rfl
theorem fo_69_0 : fieldOff Try.prog 69 0 = some 0 := by kernel_rfl
theorem fo_69_1 : fieldOff Try.prog 69 1 = some 1 := by kernel_rfl
theorem fo_69_2 : fieldOff Try.prog 69 2 = some 2 := by kernel_rfl
theorem fo_72_0 : fieldOff Try.prog 72 0 = some 0 := by kernel_rfl
theorem fo_72_1 : fieldOff Try.prog 72 1 = some 1 := by kernel_rfl
theorem fo_72_2 : fieldOff Try.prog 72 2 = some 2 := by kernel_rfl
theorem fo_72_3 : fieldOff Try.prog 72 3 = some 5 := by kernel_rfl
theorem fo_74_0 : fieldOff Try.prog 74 0 = some 0 := by kernel_rfl
theorem fo_74_1 : fieldOff Try.prog 74 1 = some 1 := by kernel_rfl
theorem fo_74_2 : fieldOff Try.prog 74 2 = some 2 := by kernel_rfl
theorem fo_74_3 : fieldOff Try.prog 74 3 = some 3 := by kernel_rfl
theorem fo_80_0 : fieldOff Try.prog 80 0 = some 0 := by kernel_rfl
theorem fo_80_1 : fieldOff Try.prog 80 1 = some 1 := by kernel_rfl
theorem fo_86_0 : fieldOff Try.prog 86 0 = some 0 := by kernel_rfl
theorem fo_86_1 : fieldOff Try.prog 86 1 = some 1 := by kernel_rfl
theorem fo_89_0 : fieldOff Try.prog 89 0 = some 0 := by kernel_rfl
theorem fo_89_1 : fieldOff Try.prog 89 1 = some 1 := by kernel_rfl
theorem fo_89_2 : fieldOff Try.prog 89 2 = some 2 := by kernel_rfl
theorem fo_89_3 : fieldOff Try.prog 89 3 = some 3 := by kernel_rfl
theorem fo_97_0 : fieldOff Try.prog 97 0 = some 0 := by kernel_rfl
theorem fo_97_1 : fieldOff Try.prog 97 1 = some 1 := by kernel_rfl
theorem fo_97_2 : fieldOff Try.prog 97 2 = some 2 := by kernel_rfl
theorem fo_97_3 : fieldOff Try.prog 97 3 = some 3 := by kernel_rfl
theorem fo_97_4 : fieldOff Try.prog 97 4 = some 4 := by kernel_rfl
theorem fo_97_5 : fieldOff Try.prog 97 5 = some 5 := by kernel_rfl
theorem ii_20 : isIf Try.prog 20 = true := by kernel_rfl
theorem is_2 : (Try.prog.underlying 2).isSome = true := by kernel_rfl
theorem is_3 : (Try.prog.underlying 3).isSome = true := by kernel_rfl
theorem is_37 : (Try.prog.underlying 37).isSome = true := by kernel_rfl
theorem is_5 : (Try.prog.underlying 5).isSome = true := by kernel_rfl
theorem mixed : Try.prog.follows .mixedOrders = true := by kernel_rfl
theorem ni_138 : notIf Try.prog 138 = true := by kernel_rfl
theorem sz_127 : szOf Try.prog 127 = some 4 := by kernel_rfl
theorem sz_138 : szOf Try.prog 138 = some 0 := by kernel_rfl
theorem sz_2 : szOf Try.prog 2 = some 1 := by kernel_rfl
theorem sz_26 : szOf Try.prog 26 = some 1 := by kernel_rfl
theorem sz_3 : szOf Try.prog 3 = some 1 := by kernel_rfl
theorem sz_35 : szOf Try.prog 35 = some 1 := by kernel_rfl
theorem sz_37 : szOf Try.prog 37 = some 1 := by kernel_rfl
theorem sz_4 : szOf Try.prog 4 = some 1 := by kernel_rfl
theorem sz_5 : szOf Try.prog 5 = some 1 := by kernel_rfl
theorem sz_67 : szOf Try.prog 67 = some 1 := by kernel_rfl
theorem sz_69 : szOf Try.prog 69 = some 3 := by kernel_rfl
theorem sz_70 : szOf Try.prog 70 = some 1 := by kernel_rfl
theorem sz_72 : szOf Try.prog 72 = some 6 := by kernel_rfl
theorem sz_74 : szOf Try.prog 74 = some 9 := by kernel_rfl
theorem sz_86 : szOf Try.prog 86 = some 2 := by kernel_rfl
theorem sz_89 : szOf Try.prog 89 = some 4 := by kernel_rfl
theorem sz_9 : szOf Try.prog 9 = some 1 := by kernel_rfl
theorem sz_97 : szOf Try.prog 97 = some 6 := by kernel_rfl
theorem u_110 : Try.prog.underlying 110 = some (.int .u64) := by kernel_rfl
theorem u_124 : Try.prog.underlying 124 = some (.slice 72) := by kernel_rfl
theorem u_2 : Try.prog.underlying 2 = some (.int .i64) := by kernel_rfl
theorem u_23 : Try.prog.underlying 23 = some (.pointer 30) := by kernel_rfl
theorem u_26 : Try.prog.underlying 26 = some (.slice 5) := by kernel_rfl
theorem u_3 : Try.prog.underlying 3 = some (.int .i64) := by kernel_rfl
theorem u_31 : Try.prog.underlying 31 = some (.pointer 113) := by kernel_rfl
theorem u_37 : Try.prog.underlying 37 = some (.int .u64) := by kernel_rfl
theorem u_4 : Try.prog.underlying 4 = some .bool := by kernel_rfl
theorem u_5 : Try.prog.underlying 5 = some (.int .u8) := by kernel_rfl
theorem u_51 : Try.prog.underlying 51 = some (.slice 37) := by kernel_rfl
theorem u_52 : Try.prog.underlying 52 = some (.slice 2) := by kernel_rfl
theorem u_53 : Try.prog.underlying 53 = some (.slice 9) := by kernel_rfl
theorem u_54 : Try.prog.underlying 54 = some (.slice 4) := by kernel_rfl
theorem u_59 : Try.prog.underlying 59 = some (.slice 3) := by kernel_rfl
theorem u_64 : Try.prog.underlying 64 = some (.slice 74) := by kernel_rfl
theorem u_67 : Try.prog.underlying 67 = some (.slice 86) := by kernel_rfl
theorem u_70 : Try.prog.underlying 70 = some (.slice 127) := by kernel_rfl
theorem u_9 : Try.prog.underlying 9 = some .string := by kernel_rfl
theorem u_91 : Try.prog.underlying 91 = some (.slice 26) := by kernel_rfl
theorem zd_113 : zeroDs Try.prog 113 = some [.fix [], .val (.bool false)] := by kernel_rfl
theorem zd_127 : zeroDs Try.prog 127 = some [.val (.str []), .val (.bool false), .val (.int .i64 0), .val (.int .i64 0)] := by kernel_rfl
theorem zd_133 : zeroDs Try.prog 133 = some [.val .nil, .val (.bool false)] := by kernel_rfl
theorem zd_138 : zeroDs Try.prog 138 = some [] := by kernel_rfl
theorem zd_2 : zeroDs Try.prog 2 = some [.val (.int .i64 0)] := by kernel_rfl
theorem zd_30 : zeroDs Try.prog 30 = some [.fix []] := by kernel_rfl
theorem zd_37 : zeroDs Try.prog 37 = some [.val (.int .u64 0)] := by kernel_rfl
theorem zd_4 : zeroDs Try.prog 4 = some [.val (.bool false)] := by kernel_rfl
theorem zd_5 : zeroDs Try.prog 5 = some [.val (.int .u8 0)] := by kernel_rfl
theorem zd_69 : zeroDs Try.prog 69 = some [.val (.bool false), .val (.int .i64 0), .val (.int .i64 0)] := by kernel_rfl
theorem zd_72 : zeroDs Try.prog 72 = some [.fix [], .val (.bool false), .val (.bool false), .val (.int .i64 0), .val (.int .i64 0), .fix []] := by kernel_rfl
theorem zd_80 : zeroDs Try.prog 80 = some [.fix [], .val (.bool false)] := by kernel_rfl
theorem zd_86 : zeroDs Try.prog 86 = some [.val (.int .i64 0), .val (.int .i64 0)] := by kernel_rfl
theorem zd_89 : zeroDs Try.prog 89 = some [.val (.int .i64 0), .val (.str []), .val (.str []), .val (.int .i64 0)] := by kernel_rfl
theorem zd_9 : zeroDs Try.prog 9 = some [.val (.str [])] := by kernel_rfl
theorem zd_97 : zeroDs Try.prog 97 = some [.val (.int .i64 0), .val (.int .i64 0), .val (.int .i64 0), .fix [], .val (.str []), .val (.int .i64 0)] := by kernel_rfl
theorem zs_127 : (zeroOf Try.prog 127).isSome = true := by kernel_rfl
theorem zs_2 : (zeroOf Try.prog 2).isSome = true := by kernel_rfl
theorem zs_26 : (zeroOf Try.prog 26).isSome = true := by kernel_rfl
theorem zs_3 : (zeroOf Try.prog 3).isSome = true := by kernel_rfl
theorem zs_37 : (zeroOf Try.prog 37).isSome = true := by kernel_rfl
theorem zs_4 : (zeroOf Try.prog 4).isSome = true := by kernel_rfl
theorem zs_5 : (zeroOf Try.prog 5).isSome = true := by kernel_rfl
theorem zs_72 : (zeroOf Try.prog 72).isSome = true := by kernel_rfl
theorem zs_86 : (zeroOf Try.prog 86).isSome = true := by kernel_rfl
theorem zs_9 : (zeroOf Try.prog 9).isSome = true := by kernel_rfl
end Go.Proofs.Ytioechdfghglhaa

/- Walks: printed by a program of this session out of its script CodeA. -/
namespace Go.Proofs.Ytioechdfghglhaa
set_option linter.unusedVariables false
set_option linter.unusedSimpArgs false
set_option maxRecDepth 4000
set_option maxHeartbeats 4000000
open Go Go.RowKit SL


/-- slices.Clone over bytes. -/
theorem clone_ok (l : List UInt8) (σ : List Chunk) (hl : l.length ≤ 100000000) :
    FSpec Try.prog 59 [.val (.list (l.map byteV))] σ (fun d σ' => d = .val (.list (l.map byteV)) ∧ σ' = σ) := by
  refine spec_of_sw Try.func59 rfl ?_
  refine sw_seq ?_
  refine sl_region ?_
  refine sl_as rfl rfl rfl ?_
  refine sl_nil ?_
  refine sw_seq ?_
  refine sw_seq ?_
  refine sl_region ?_
  refine sl_mv rfl rfl rfl ?_
  refine sl_list_nil rfl rfl rfl u_26 (fun n4 hn4 => ?_)
  refine sl_nil ?_
  refine sw_cond rfl (fun hn => ?_) (fun hn => ?_)
  · obtain rfl : l = [] := by have := hn4 hn; simpa using this
    refine sw_seq ?_
    refine sl_region ?_
    refine sl_as rfl rfl rfl ?_
    refine sl_nil ?_
    refine sw_ret ⟨rfl, _, _, ResD.weak (res_one rfl rfl) ((Weak.toV rfl) ), ?_, ⟨rfl, rfl⟩⟩
    repeat constructor
  refine sw_skip ?_
  refine sw_seq ?_
  refine sl_region ?_
  refine sl_bs1 rfl rfl .nil u_26 sz_5 zs_5 (by decide) rfl rfl rfl rfl ?_
  refine sl_mv rfl rfl rfl ?_
  refine sl_own (t := 5) (sz := 1) rfl (fun v => ?_)
  refine sl_appp rfl rfl rfl rfl u_26 ⟨_, u_26, rfl⟩ el_5 (by repeat constructor) (by repeat constructor) (by simp; omega) (rfl) (by repeat constructor) (fun v7 => ?_)
  refine sl_as rfl rfl rfl ?_
  refine sl_nil ?_
  refine sw_ret ⟨rfl, _, _, ResD.weak (res_one rfl rfl) ((Weak.toV rfl) ), ?_, ⟨rfl, rfl⟩⟩
  repeat constructor

/-- NewWriter: a new, empty writer. -/
theorem newWriter_ok (σ : List Chunk) : FSpec Try.prog 16 [] σ (fun d σ' => ∃ p v, d = .ptr p 0 ∧ σ' = .blk p [.own v (([] : List UInt8).map byteV)] :: .spare v 1 :: σ) := by
  refine spec_of_sw Try.func16 rfl ?_
  refine sw_seq ?_
  refine sl_region ?_
  refine sl_as rfl rfl rfl ?_
  refine sl_nil ?_
  refine sw_seq ?_
  refine sl_region ?_
  refine sl_bd rfl rfl .nil bi_30 zd_30 rfl ?_
  refine sl_bx rfl rfl rfl rfl (fun b2 => ?_)
  refine sl_own_blk (i := 0) (sz := 1) rfl (fun v => ?_)
  refine sl_as rfl rfl rfl ?_
  refine sl_nil ?_
  refine sw_ret ⟨rfl, _, _, res_one rfl rfl, ?_, ⟨b2, v, rfl, rfl⟩⟩
  repeat constructor

/-- Num writes numbers. -/
theorem num_ok (p : Nat) (v : Value) (l : List UInt8) (ns : List Nat) (σ : List Chunk) (hns : ∀ n ∈ ns, n < 18446744073709551616) (hl : l.length + 10 * ns.length ≤ 100000000) :
    FSpec Try.prog 28 [.ptr p 0, .val (.list (ns.map u64V))] (.blk p [.own v (l.map byteV)] :: .spare v 1 :: σ)
      (fun d σ' => d = .tup [] ∧ ∃ v', σ' = .blk p [.own v' ((l ++ ns.flatMap encNum).map byteV)] :: .spare v' 1 :: σ) := by
  refine spec_of_sw Try.func28 rfl ?_
  refine sw_seq ?_
  refine sl_region ?_
  refine sl_mv rfl rfl rfl ?_
  first
    | refine sl_len rfl rfl rfl ⟨_, u_51⟩ ?_
    | refine sl_len_sl rfl rfl rfl ⟨_, u_51⟩ ?_
    | refine sl_len_w _ rfl rfl rfl ⟨_, u_51⟩ ?_
  refine sl_mv rfl rfl rfl ?_
  refine sl_nil ?_
  refine sw_block ?_
  refine sw_set 7 (.val (.int .i64 (ns.length : Int))) (len_eq (List.length_map ..)) ?_
  refine sw_loopw (fun nX sX δX σX => ∃ (k : Nat) (v : Value) (m : List UInt8), (ns.length - k) = nX ∧ sX = ⟨40, (.cons 0 (.ptr p 0) (.cons 6 (.val (.list (ns.map u64V))) (.cons 7 (.val (.int .i64 (ns.length : Int))) (.cons 8 (.val (.int .i64 (k : Int))) .nil))))⟩ ∧ δX = [] ∧ σX = .blk p [.own v (m.map byteV)] :: .spare v 1 :: σ ∧ (k ≤ ns.length) ∧ (m = l ++ (ns.take k).flatMap encNum)) ?_ ?_
  · refine ⟨_, _, _, ?_, ?_, 0, v, l, rfl, rfl, rfl, rfl, Nat.zero_le _, by simp⟩
    · exact ⟨rfl, by repeat constructor⟩
    · repeat constructor
  rintro nX sX δX σX ⟨k, v, m, rfl, rfl, rfl, rfl, hk0, hm0⟩
  refine sw_seq ?_
  refine sl_region ?_
  refine sl_bin rfl rfl rfl rfl rfl ?_
  refine sl_nil ?_
  refine sw_seq ?_
  refine sw_cond rfl (fun hk => ?_) (fun hk => ?_)
  · have hk : k < ns.length := by simpa using hk
    refine sw_skip ?_
    refine sw_seq ?_
    refine sw_block ?_
    refine sw_seq ?_
    refine sl_region ?_
    refine sl_indexAddr' rfl rfl rfl rfl u_51 sz_37 (by omega) (idx_map hk) rfl ?_
    first
      | refine sl_load_rp1 rfl rfl rfl ag_37 rfl ?_
      | refine sl_load_blk1 rfl rfl rfl ag_37 (by repeat constructor) rfl ?_
    refine sl_as rfl rfl rfl ?_
    refine sl_nil ?_
    refine sw_seq ?_
    refine sw_block ?_
    have hxk := hns ns[k] (List.getElem_mem hk)
    have hft := flat_take_len ns hns k
    refine sw_loopw (fun nX sX δX σX => ∃ (x : Nat) (v : Value) (m : List UInt8), (x) = nX ∧ sX = ⟨40, (.cons 0 (.ptr p 0) (.cons 6 (.val (.list (ns.map u64V))) (.cons 7 (.val (.int .i64 (ns.length : Int))) (.cons 8 (.val (.int .i64 (k : Int))) (.cons 5 (.val (.int .u64 (x : Int))) .nil)))))⟩ ∧ δX = [] ∧ σX = .blk p [.own v (m.map byteV)] :: .spare v 1 :: σ ∧ (x < 18446744073709551616) ∧ (m ++ encNum x = l ++ (ns.take k).flatMap encNum ++ encNum ns[k])) ?_ ?_
    · refine ⟨_, _, _, ?_, ?_, ns[k], v, m, rfl, rfl, rfl, rfl, hxk, by rw [hm0]⟩
      · exact ⟨rfl, by repeat constructor⟩
      · repeat constructor
    rintro nX sX δX σX ⟨x, v, m, rfl, rfl, rfl, rfl, hx0, hm⟩
    have hml : m.length ≤ 99999999 := by
      have h1 := congrArg List.length hm
      have h2 := encNum_len hxk
      have h3 := encNum_pos x
      simp only [List.length_append] at h1
      omega
    refine sw_seq ?_
    refine sw_seq ?_
    refine sl_region ?_
    refine sl_mv rfl rfl rfl ?_
    refine sl_bin rfl rfl rfl rfl rfl ?_
    refine sl_nil ?_
    refine sw_cond rfl (fun hx => ?_) (fun hx => ?_)
    · have hx : 128 ≤ x := by have := of_decide_eq_true hx; omega
      refine sw_skip ?_
      refine sw_seq ?_
      refine sw_block ?_
      refine sl_region ?_
      refine sl_mv rfl rfl rfl ?_
      refine sl_mv rfl rfl rfl ?_
      refine sl_nc rfl rfl rfl rfl ?_
      first
        | refine sl_fieldAddr_ptr rfl rfl rfl fo_28_0 ?_
        | refine sl_fieldAddr_rp rfl rfl rfl fo_28_0 ?_
        | refine sl_fieldAddr_ref rfl rfl rfl fo_28_0 ?_
      first
        | refine sl_load_rp1 rfl rfl rfl ag_26 rfl ?_
        | refine sl_load_blk1 rfl rfl rfl ag_26 (by repeat constructor) rfl ?_
      refine sl_mv rfl rfl rfl ?_
      refine sl_conv_int rfl rfl rfl is_37 u_5 ?_
      refine sl_bin rfl rfl rfl rfl rfl ?_
      refine sl_bs1 rfl rfl (.cons rfl .nil) u_26 sz_5 zs_5 (by decide) rfl rfl rfl rfl ?_
      refine sl_appp rfl rfl rfl rfl u_26 ⟨_, u_26, rfl⟩ el_5 (by repeat constructor) (by repeat constructor) (by simp; omega) ((by rw [List.map_append]; exact congrArg _ (congrArg (fun z => [z]) (hi_byte x)) : _ = (m ++ [UInt8.ofNat (x % 128 + 128)]).map byteV)) (by repeat constructor) (fun v25 => ?_)
      refine sl_nc rfl rfl rfl rfl ?_
      first
        | refine sl_fieldAddr_ptr rfl rfl rfl fo_28_0 ?_
        | refine sl_fieldAddr_rp rfl rfl rfl fo_28_0 ?_
        | refine sl_fieldAddr_ref rfl rfl rfl fo_28_0 ?_
      refine sl_stp rfl rfl rfl rfl sz_26 rfl rfl rfl (by repeat constructor) (Nat.le_of_ble_eq_true rfl) ?_
      refine sl_nil ?_
      refine sl_region ?_
      refine sl_mv rfl rfl rfl ?_
      refine sl_shr rfl rfl rfl rfl (by decide) ?_
      refine sl_set 15 (.val (.int .u64 ((x / 128 : Nat) : Int))) (shr7 x) ?_
      refine sl_as rfl rfl rfl ?_
      refine sl_nil ?_
      refine ⟨_, by omega, _, _, ?_, ?_, x / 128, v25, m ++ [UInt8.ofNat (x % 128 + 128)], rfl, rfl, rfl, rfl, by omega, by rw [← hm, encNum_ge hx]; simp⟩
      · exact ⟨rfl, by repeat constructor⟩
      · repeat constructor
    have hx : x < 128 := by have := of_decide_eq_false hx; omega
    refine sw_exit ?_
    refine sl_region ?_
    refine sl_mv rfl rfl rfl ?_
    refine sl_mv rfl rfl rfl ?_
    refine sl_nc rfl rfl rfl rfl ?_
    first
      | refine sl_fieldAddr_ptr rfl rfl rfl fo_28_0 ?_
      | refine sl_fieldAddr_rp rfl rfl rfl fo_28_0 ?_
      | refine sl_fieldAddr_ref rfl rfl rfl fo_28_0 ?_
    first
      | refine sl_load_rp1 rfl rfl rfl ag_26 rfl ?_
      | refine sl_load_blk1 rfl rfl rfl ag_26 (by repeat constructor) rfl ?_
    refine sl_mv rfl rfl rfl ?_
    refine sl_conv_int rfl rfl rfl is_37 u_5 ?_
    refine sl_bs1 rfl rfl (.cons rfl .nil) u_26 sz_5 zs_5 (by decide) rfl rfl rfl rfl ?_
    refine sl_appp rfl rfl rfl rfl u_26 ⟨_, u_26, rfl⟩ el_5 (by repeat constructor) (by repeat constructor) (by simp; omega) ((by rw [List.map_append]; exact congrArg _ (congrArg (fun z => [z]) (lo_byte x)) : _ = (m ++ [UInt8.ofNat x]).map byteV)) (by repeat constructor) (fun v36 => ?_)
    refine sl_nc rfl rfl rfl rfl ?_
    first
      | refine sl_fieldAddr_ptr rfl rfl rfl fo_28_0 ?_
      | refine sl_fieldAddr_rp rfl rfl rfl fo_28_0 ?_
      | refine sl_fieldAddr_ref rfl rfl rfl fo_28_0 ?_
    refine sl_stp rfl rfl rfl rfl sz_26 rfl rfl rfl (by repeat constructor) (Nat.le_of_ble_eq_true rfl) ?_
    refine sl_nil ?_
    refine sl_region ?_
    first
      | refine sl_inc rfl rfl rfl rfl (by omega) ?_
      | refine sl_add rfl rfl rfl rfl (by constructor <;> omega) ?_
      | refine sl_bin rfl rfl rfl rfl rfl ?_
    refine sl_mv rfl rfl rfl ?_
    refine sl_nil ?_
    have e : m ++ [UInt8.ofNat x] = l ++ (ns.take (k + 1)).flatMap encNum := by
      rw [take_snoc hk, List.flatMap_append, ← List.append_assoc]
      simp only [List.flatMap_cons, List.flatMap_nil, List.append_nil]
      rw [← hm, encNum_lt hx]
    refine ⟨_, by omega, _, _, ?_, ?_, k + 1, v36, _, rfl, rfl, rfl, rfl, by omega, e⟩
    · exact ⟨rfl, by repeat constructor⟩
    · repeat constructor
  have hk : k = ns.length := by have : ¬ k < ns.length := by simpa using hk
                                omega
  subst hk
  rw [List.take_length] at hm0
  subst hm0
  refine sw_exit ?_
  refine ⟨rfl, _, _, res_none rfl, ?_, ⟨rfl, v, rfl⟩⟩
  repeat constructor

end Go.Proofs.Ytioechdfghglhaa

/- Walks: printed by a program of this session out of its script CodeB. -/
namespace Go.Proofs.Ytioechdfghglhaa
set_option linter.unusedVariables false
set_option linter.unusedSimpArgs false
set_option maxRecDepth 4000
set_option maxHeartbeats 4000000
open Go Go.RowKit SL


def stop : List PanicEntry := [{ v := .iface 138 (.agg #[]), recovered := false }]

/-- Int writes numbers with signs. -/
theorem int_ok (p : Nat) (v : Value) (l : List UInt8) (ns : List Int) (σ : List Chunk) (hns : ∀ n ∈ ns, isI64 n) (hl : l.length + 10 * ns.length ≤ 100000000) :
    FSpec Try.prog 17 [.ptr p 0, .val (.list (ns.map i64V))] (.blk p [.own v (l.map byteV)] :: .spare v 1 :: σ)
      (fun d σ' => d = .tup [] ∧ ∃ v', σ' = .blk p [.own v' ((l ++ ns.flatMap encInt).map byteV)] :: .spare v' 1 :: σ) := by
  refine spec_of_sw Try.func17 rfl ?_
  refine sw_seq ?_
  refine sl_region ?_
  refine sl_mv rfl rfl rfl ?_
  first
    | refine sl_len rfl rfl rfl ⟨_, u_52⟩ ?_
    | refine sl_len_sl rfl rfl rfl ⟨_, u_52⟩ ?_
    | refine sl_len_w _ rfl rfl rfl ⟨_, u_52⟩ ?_
  refine sl_mv rfl rfl rfl ?_
  refine sl_nil ?_
  refine sw_block ?_
  refine sw_set 7 (.val (.int .i64 (ns.length : Int))) (len_eq (List.length_map ..)) ?_
  refine sw_loopw (fun nX sX δX σX => ∃ (k : Nat) (v : Value) (m : List UInt8), (ns.length - k) = nX ∧ sX = ⟨23, (.cons 0 (.ptr p 0) (.cons 6 (.val (.list (ns.map i64V))) (.cons 7 (.val (.int .i64 (ns.length : Int))) (.cons 8 (.val (.int .i64 (k : Int))) .nil))))⟩ ∧ δX = [] ∧ σX = .blk p [.own v (m.map byteV)] :: .spare v 1 :: σ ∧ (k ≤ ns.length) ∧ (m = l ++ (ns.take k).flatMap encInt)) ?_ ?_
  · refine ⟨_, _, _, ?_, ?_, 0, v, l, rfl, rfl, rfl, rfl, Nat.zero_le _, by simp⟩
    · exact ⟨rfl, by repeat constructor⟩
    · repeat constructor
  rintro nX sX δX σX ⟨k, v, m, rfl, rfl, rfl, rfl, hk0, hm0⟩
  refine sw_seq ?_
  refine sl_region ?_
  refine sl_bin rfl rfl rfl rfl rfl ?_
  refine sl_nil ?_
  refine sw_seq ?_
  refine sw_cond rfl (fun hk => ?_) (fun hk => ?_)
  · have hk : k < ns.length := by simpa using hk
    refine sw_skip ?_
    refine sw_seq ?_
    refine sw_block ?_
    refine sw_seq ?_
    refine sl_region ?_
    refine sl_indexAddr' rfl rfl rfl rfl u_52 sz_2 (by omega) (idx_map hk) rfl ?_
    first
      | refine sl_load_rp1 rfl rfl rfl ag_2 rfl ?_
      | refine sl_load_blk1 rfl rfl rfl ag_2 (by repeat constructor) rfl ?_
    refine sl_as rfl rfl rfl ?_
    refine sl_nil ?_
    refine sl_region ?_
    refine sl_mv rfl rfl rfl ?_
    refine sl_mv rfl rfl rfl ?_
    refine sl_conv_int rfl rfl rfl is_2 u_37 ?_
    refine sl_shl rfl rfl rfl rfl (by decide) ?_
    refine sl_mv rfl rfl rfl ?_
    refine sl_shr rfl rfl rfl rfl (by decide) ?_
    refine sl_conv_int rfl rfl rfl is_2 u_37 ?_
    refine sl_bin rfl rfl rfl rfl rfl ?_
    have hxk := hns ns[k] (List.getElem_mem hk)
    have hft := flat_len (f := encInt) (c := 10) (ns := ns) (fun n hn => encNum_len (zig_lt (hns n hn))) k
    have hml : m.length ≤ l.length + 10 * k := by rw [hm0, List.length_append]; omega
    refine sl_set 19 (.val (u64V (zig ns[k]))) (congrArg D.val (zig_bits hxk)) ?_
    refine sl_bs1 rfl rfl (.cons rfl .nil) u_51 sz_37 zs_37 (by decide) rfl rfl rfl rfl ?_
    refine sl_callf rfl rfl cal_28 (num_ok p v m [zig ns[k]] σ (by simpa using zig_lt hxk) (by simp; omega)) ?_ ?_ ?_ (fun _ _ h => h.elim)
    · repeat constructor
    · repeat constructor
    rintro _ _ ⟨rfl, v2, rfl⟩
    refine sl_nil ?_
    refine sl_region ?_
    first
      | refine sl_inc rfl rfl rfl rfl (by omega) ?_
      | refine sl_add rfl rfl rfl rfl (by constructor <;> omega) ?_
      | refine sl_bin rfl rfl rfl rfl rfl ?_
    refine sl_mv rfl rfl rfl ?_
    refine sl_nil ?_
    have e : m ++ [zig ns[k]].flatMap encNum = l ++ (ns.take (k + 1)).flatMap encInt := by
      rw [flat_snoc hk, hm0]; simp [encInt]
    refine ⟨_, by omega, _, _, ?_, ?_, k + 1, v2, _, rfl, rfl, rfl, rfl, by omega, e⟩
    · exact ⟨rfl, by repeat constructor⟩
    · repeat constructor
  have hk : k = ns.length := by have : ¬ k < ns.length := by simpa using hk
                                omega
  subst hk
  rw [List.take_length] at hm0
  subst hm0
  refine sw_exit ?_
  refine ⟨rfl, _, _, res_none rfl, ?_, ⟨rfl, v, rfl⟩⟩
  repeat constructor

/-- Text writes texts. -/
theorem text_ok (p : Nat) (v : Value) (l : List UInt8) (ss : List (List UInt8)) (c : Nat) (σ : List Chunk) (hss : ∀ s ∈ ss, s.length ≤ c) (hl : l.length + (10 + c) * ss.length ≤ 100000000) :
    FSpec Try.prog 29 [.ptr p 0, .val (.list (ss.map strV))] (.blk p [.own v (l.map byteV)] :: .spare v 1 :: σ)
      (fun d σ' => d = .tup [] ∧ ∃ v', σ' = .blk p [.own v' ((l ++ ss.flatMap encText).map byteV)] :: .spare v' 1 :: σ) := by
  refine spec_of_sw Try.func29 rfl ?_
  refine sw_seq ?_
  refine sl_region ?_
  refine sl_mv rfl rfl rfl ?_
  first
    | refine sl_len rfl rfl rfl ⟨_, u_53⟩ ?_
    | refine sl_len_sl rfl rfl rfl ⟨_, u_53⟩ ?_
    | refine sl_len_w _ rfl rfl rfl ⟨_, u_53⟩ ?_
  refine sl_mv rfl rfl rfl ?_
  refine sl_nil ?_
  refine sw_block ?_
  refine sw_set 7 (.val (.int .i64 (ss.length : Int))) (len_eq (List.length_map ..)) ?_
  refine sw_loopw (fun nX sX δX σX => ∃ (k : Nat) (v : Value) (m : List UInt8), (ss.length - k) = nX ∧ sX = ⟨28, (.cons 0 (.ptr p 0) (.cons 6 (.val (.list (ss.map strV))) (.cons 7 (.val (.int .i64 (ss.length : Int))) (.cons 8 (.val (.int .i64 (k : Int))) .nil))))⟩ ∧ δX = [] ∧ σX = .blk p [.own v (m.map byteV)] :: .spare v 1 :: σ ∧ (k ≤ ss.length) ∧ (m = l ++ (ss.take k).flatMap encText)) ?_ ?_
  · refine ⟨_, _, _, ?_, ?_, 0, v, l, rfl, rfl, rfl, rfl, Nat.zero_le _, by simp⟩
    · exact ⟨rfl, by repeat constructor⟩
    · repeat constructor
  rintro nX sX δX σX ⟨k, v, m, rfl, rfl, rfl, rfl, hk0, hm0⟩
  refine sw_seq ?_
  refine sl_region ?_
  refine sl_bin rfl rfl rfl rfl rfl ?_
  refine sl_nil ?_
  refine sw_seq ?_
  refine sw_cond rfl (fun hk => ?_) (fun hk => ?_)
  · have hk : k < ss.length := by simpa using hk
    refine sw_skip ?_
    refine sw_seq ?_
    refine sw_block ?_
    refine sw_seq ?_
    refine sl_region ?_
    refine sl_indexAddr' rfl rfl rfl rfl u_53 sz_9 (by omega) (idx_map hk) rfl ?_
    first
      | refine sl_load_rp1 rfl rfl rfl ag_9 rfl ?_
      | refine sl_load_blk1 rfl rfl rfl ag_9 (by repeat constructor) rfl ?_
    refine sl_as rfl rfl rfl ?_
    refine sl_nil ?_
    refine sw_seq ?_
    refine sl_region ?_
    refine sl_mv rfl rfl rfl ?_
    refine sl_mv rfl rfl rfl ?_
    refine sl_len_str rfl rfl rfl u_9 ?_
    refine sl_conv_int rfl rfl rfl is_3 u_37 ?_
    have hxk := hss ss[k] (List.getElem_mem hk)
    have hmul : (10 + c) * (k + 1) ≤ (10 + c) * ss.length := Nat.mul_le_mul (Nat.le_refl _) hk
    rw [Nat.mul_succ] at hmul
    have hcl : c ≤ 100000000 := by omega
    have hkk : 10 * k ≤ (10 + c) * k := Nat.mul_le_mul (by omega) (Nat.le_refl _)
    have hft := flat_len (f := encText) (c := 10 + c) (ns := ss) (fun s hs => by have := encNum_len (n := s.length) (by have := hss s hs; omega); have := hss s hs; unfold encText; rw [List.length_append]; omega) k
    have hml : m.length ≤ l.length + (10 + c) * k := by rw [hm0, List.length_append]; omega
    have hel := encNum_len (n := ss[k].length) (by omega)
    refine sl_set 15 (.val (u64V ss[k].length)) (congrArg (fun z => D.val (.int .u64 z)) (wrapped_u64 _ (by omega))) ?_
    refine sl_bs1 rfl rfl (.cons rfl .nil) u_51 sz_37 zs_37 (by decide) rfl rfl rfl rfl ?_
    refine sl_callf rfl rfl cal_28 (num_ok p v m [ss[k].length] σ (by simp; omega) (by simp; omega)) ?_ ?_ ?_ (fun _ _ h => h.elim)
    · repeat constructor
    · repeat constructor
    rintro _ _ ⟨rfl, v2, rfl⟩
    refine sl_nil ?_
    refine sl_region ?_
    refine sl_mv rfl rfl rfl ?_
    refine sl_mv rfl rfl rfl ?_
    refine sl_nc rfl rfl rfl rfl ?_
    first
      | refine sl_fieldAddr_ptr rfl rfl rfl fo_28_0 ?_
      | refine sl_fieldAddr_rp rfl rfl rfl fo_28_0 ?_
      | refine sl_fieldAddr_ref rfl rfl rfl fo_28_0 ?_
    first
      | refine sl_load_rp1 rfl rfl rfl ag_26 rfl ?_
      | refine sl_load_blk1 rfl rfl rfl ag_26 (by repeat constructor) rfl ?_
    refine sl_mv rfl rfl rfl ?_
    refine sl_app_strp rfl rfl rfl rfl u_26 u_9 el_5 (by repeat constructor) (by simp; omega) ((by rw [← List.map_append] : _ = ((m ++ [ss[k].length].flatMap encNum) ++ ss[k]).map byteV)) (by repeat constructor) (fun v24 => ?_)
    refine sl_nc rfl rfl rfl rfl ?_
    first
      | refine sl_fieldAddr_ptr rfl rfl rfl fo_28_0 ?_
      | refine sl_fieldAddr_rp rfl rfl rfl fo_28_0 ?_
      | refine sl_fieldAddr_ref rfl rfl rfl fo_28_0 ?_
    refine sl_stp rfl rfl rfl rfl sz_26 rfl rfl rfl (by repeat constructor) (Nat.le_of_ble_eq_true rfl) ?_
    refine sl_nil ?_
    refine sl_region ?_
    first
      | refine sl_inc rfl rfl rfl rfl (by omega) ?_
      | refine sl_add rfl rfl rfl rfl (by constructor <;> omega) ?_
      | refine sl_bin rfl rfl rfl rfl rfl ?_
    refine sl_mv rfl rfl rfl ?_
    refine sl_nil ?_
    have e : (m ++ [ss[k].length].flatMap encNum) ++ ss[k] = l ++ (ss.take (k + 1)).flatMap encText := by
      rw [flat_snoc hk, hm0]; simp [encText]
    refine ⟨_, by omega, _, _, ?_, ?_, k + 1, v24, _, rfl, rfl, rfl, rfl, by omega, e⟩
    · exact ⟨rfl, by repeat constructor⟩
    · repeat constructor
  have hk : k = ss.length := by have : ¬ k < ss.length := by simpa using hk
                                omega
  subst hk
  rw [List.take_length] at hm0
  subst hm0
  refine sw_exit ?_
  refine ⟨rfl, _, _, res_none rfl, ?_, ⟨rfl, v, rfl⟩⟩
  repeat constructor

/-- Bool writes truths. -/
theorem bool_ok (p : Nat) (v : Value) (l : List UInt8) (bs : List Bool) (σ : List Chunk) (hl : l.length + 10 * bs.length ≤ 100000000) :
    FSpec Try.prog 30 [.ptr p 0, .val (.list (bs.map boolV))] (.blk p [.own v (l.map byteV)] :: .spare v 1 :: σ)
      (fun d σ' => d = .tup [] ∧ ∃ v', σ' = .blk p [.own v' ((l ++ bs.flatMap encBool).map byteV)] :: .spare v' 1 :: σ) := by
  refine spec_of_sw Try.func30 rfl ?_
  refine sw_seq ?_
  refine sl_region ?_
  refine sl_mv rfl rfl rfl ?_
  first
    | refine sl_len rfl rfl rfl ⟨_, u_54⟩ ?_
    | refine sl_len_sl rfl rfl rfl ⟨_, u_54⟩ ?_
    | refine sl_len_w _ rfl rfl rfl ⟨_, u_54⟩ ?_
  refine sl_mv rfl rfl rfl ?_
  refine sl_nil ?_
  refine sw_block ?_
  refine sw_set 8 (.val (.int .i64 (bs.length : Int))) (len_eq (List.length_map ..)) ?_
  refine sw_loopw (fun nX sX δX σX => ∃ (k : Nat) (v : Value) (m : List UInt8), (bs.length - k) = nX ∧ sX = ⟨19, (.cons 0 (.ptr p 0) (.cons 7 (.val (.list (bs.map boolV))) (.cons 8 (.val (.int .i64 (bs.length : Int))) (.cons 9 (.val (.int .i64 (k : Int))) .nil))))⟩ ∧ δX = [] ∧ σX = .blk p [.own v (m.map byteV)] :: .spare v 1 :: σ ∧ (k ≤ bs.length) ∧ (m = l ++ (bs.take k).flatMap encBool)) ?_ ?_
  · refine ⟨_, _, _, ?_, ?_, 0, v, l, rfl, rfl, rfl, rfl, Nat.zero_le _, by simp⟩
    · exact ⟨rfl, by repeat constructor⟩
    · repeat constructor
  rintro nX sX δX σX ⟨k, v, m, rfl, rfl, rfl, rfl, hk0, hm0⟩
  refine sw_seq ?_
  refine sl_region ?_
  refine sl_bin rfl rfl rfl rfl rfl ?_
  refine sl_nil ?_
  refine sw_seq ?_
  refine sw_cond rfl (fun hk => ?_) (fun hk => ?_)
  · have hk : k < bs.length := by simpa using hk
    refine sw_skip ?_
    refine sw_seq ?_
    refine sw_block ?_
    refine sw_seq ?_
    refine sl_region ?_
    refine sl_indexAddr' rfl rfl rfl rfl u_54 sz_4 (by omega) (idx_map hk) rfl ?_
    first
      | refine sl_load_rp1 rfl rfl rfl ag_4 rfl ?_
      | refine sl_load_blk1 rfl rfl rfl ag_4 (by repeat constructor) rfl ?_
    refine sl_as rfl rfl rfl ?_
    refine sl_nil ?_
    refine sw_seq ?_
    refine sl_region ?_
    refine sl_as rfl rfl rfl ?_
    refine sl_nil ?_
    refine sw_seq ?_
    refine sw_seq ?_
    refine sl_region ?_
    refine sl_mv rfl rfl rfl ?_
    refine sl_nil ?_
    refine sw_cutk ⟨19, (.cons 0 (.ptr p 0) (.cons 7 (.val (.list (bs.map boolV))) (.cons 8 (.val (.int .i64 (bs.length : Int))) (.cons 9 (.val (.int .i64 (k : Int))) (.cons 6 (.val (u64V (b01 bs[k]))) .nil)))))⟩ (.blk p [.own v (m.map byteV)] :: .spare v 1 :: σ) (True) ?_ ?_
    · refine sw_cond rfl (fun hb => ?_) (fun hb => ?_)
      · refine sl_region ?_
        refine sl_as rfl rfl rfl ?_
        refine sl_set 6 (.val (u64V (b01 bs[k]))) (by show D.val (.int .u64 1) = _; rw [show bs[k] = true from hb]; rfl) ?_
        refine sl_nil ?_
        refine ⟨?_, ?_, rfl, trivial⟩
        · exact ⟨rfl, by repeat constructor⟩
        · repeat constructor
      refine sw_set 6 (.val (u64V (b01 bs[k]))) (by show D.val (.int .u64 0) = _; rw [show bs[k] = false from hb]; rfl) ?_
      refine sw_skip ?_
      refine ⟨?_, ?_, rfl, trivial⟩
      · exact ⟨rfl, by repeat constructor⟩
      · repeat constructor
    intro _
    have hft := flat_len (f := encBool) (c := 10) (ns := bs) (fun b hb => encNum_len (by unfold b01; split <;> decide)) k
    have hml : m.length ≤ l.length + 10 * k := by rw [hm0, List.length_append]; omega
    refine sl_region ?_
    refine sl_mv rfl rfl rfl ?_
    refine sl_mv rfl rfl rfl ?_
    refine sl_bs1 rfl rfl (.cons rfl .nil) u_51 sz_37 zs_37 (by decide) rfl rfl rfl rfl ?_
    refine sl_callf rfl rfl cal_28 (num_ok p v m [b01 bs[k]] σ (by simp; unfold b01; split <;> decide) (by simp; omega)) ?_ ?_ ?_ (fun _ _ h => h.elim)
    · repeat constructor
    · repeat constructor
    rintro _ _ ⟨rfl, v2, rfl⟩
    refine sl_nil ?_
    refine sl_region ?_
    first
      | refine sl_inc rfl rfl rfl rfl (by omega) ?_
      | refine sl_add rfl rfl rfl rfl (by constructor <;> omega) ?_
      | refine sl_bin rfl rfl rfl rfl rfl ?_
    refine sl_mv rfl rfl rfl ?_
    refine sl_nil ?_
    have e : m ++ [b01 bs[k]].flatMap encNum = l ++ (bs.take (k + 1)).flatMap encBool := by
      rw [flat_snoc hk, hm0]; simp [encBool]
    refine ⟨_, by omega, _, _, ?_, ?_, k + 1, v2, _, rfl, rfl, rfl, rfl, by omega, e⟩
    · exact ⟨rfl, by repeat constructor⟩
    · repeat constructor
  have hk : k = bs.length := by have : ¬ k < bs.length := by simpa using hk
                                omega
  subst hk
  rw [List.take_length] at hm0
  subst hm0
  refine sw_exit ?_
  refine ⟨rfl, _, _, res_none rfl, ?_, ⟨rfl, v, rfl⟩⟩
  repeat constructor

/-- Bytes tells all that was written. -/
theorem bytes_ok (p : Nat) (v : Value) (l : List UInt8) (σ : List Chunk) (hl : l.length ≤ 100000000) :
    FSpec Try.prog 19 [.ptr p 0] (.blk p [.own v (l.map byteV)] :: σ) (fun d σ' => d = .val (.list (l.map byteV)) ∧ σ' = .blk p [.own v (l.map byteV)] :: σ) := by
  refine spec_of_sw Try.func19 rfl ?_
  refine sw_seq ?_
  refine sl_region ?_
  refine sl_as rfl rfl rfl ?_
  refine sl_nil ?_
  refine sw_seq ?_
  refine sl_region ?_
  refine sl_mv rfl rfl rfl ?_
  refine sl_nc rfl rfl rfl rfl ?_
  first
    | refine sl_fieldAddr_ptr rfl rfl rfl fo_28_0 ?_
    | refine sl_fieldAddr_rp rfl rfl rfl fo_28_0 ?_
    | refine sl_fieldAddr_ref rfl rfl rfl fo_28_0 ?_
  first
    | refine sl_load_rp1 rfl rfl rfl ag_26 rfl ?_
    | refine sl_load_blk1 rfl rfl rfl ag_26 (by repeat constructor) rfl ?_
  refine sl_callf rfl rfl cal_59 (clone_ok l (.blk p [.own v (l.map byteV)] :: σ) hl) ?_ ?_ ?_ (fun _ _ h => h.elim)
  · repeat constructor
  · repeat constructor
  rintro _ _ ⟨rfl, rfl⟩
  refine sl_as rfl rfl rfl ?_
  refine sl_nil ?_
  refine sw_ret ⟨rfl, _, _, res_one rfl rfl, ?_, ⟨rfl, rfl⟩⟩
  repeat constructor

/-- NewReader. -/
theorem newReader_ok (l : List UInt8) (σ : List Chunk) (hl : l.length ≤ 100000000) :
    FSpec Try.prog 18 [.val (.list (l.map byteV))] σ (fun d σ' => ∃ q, d = .ptr q 0 ∧ σ' = .blk q [.val (.list (l.map byteV)), .val (.bool false)] :: σ) := by
  refine spec_of_sw Try.func18 rfl ?_
  refine sw_seq ?_
  refine sl_region ?_
  refine sl_as rfl rfl rfl ?_
  refine sl_nil ?_
  refine sw_seq ?_
  refine sl_region ?_
  refine sl_mv rfl rfl rfl ?_
  refine sl_callf rfl rfl cal_59 (clone_ok l σ hl) ?_ ?_ ?_ (fun _ _ h => h.elim)
  · repeat constructor
  · repeat constructor
  rintro _ _ ⟨rfl, rfl⟩
  refine sl_bd rfl rfl (.cons rfl .nil) bi_113 zd_113 rfl ?_
  refine sl_bx rfl rfl rfl rfl (fun b6 => ?_)
  refine sl_as rfl rfl rfl ?_
  refine sl_nil ?_
  refine sw_ret ⟨rfl, _, _, res_one rfl rfl, ?_, ⟨b6, rfl, rfl⟩⟩
  repeat constructor

theorem must_ok (b : Bool) (σ : List Chunk) : FSpecP Try.prog 98 [.val (.bool b)] σ (fun d σ' => b = true ∧ d = .tup [] ∧ σ' = σ) (fun ch σ' => b = false ∧ ch = stop ∧ σ' = σ) := by
  refine spec_of_sw Try.func98 rfl ?_
  refine sw_seq ?_
  refine sl_region ?_
  refine sl_mv rfl rfl rfl ?_
  refine sl_not rfl rfl rfl ?_
  refine sl_nil ?_
  refine sw_cond rfl (fun h => ?_) (fun h => ?_)
  · refine sl_region ?_
    refine sl_bd rfl rfl .nil bi_138 zd_138 rfl ?_
    refine sl_mi' rfl rfl ni_138 rfl ?_
    refine sl_panic rfl rfl rfl (fun _ _ r => empty_iface r) (⟨rfl, _, Sub.refl _, ⟨by simpa using h, rfl, rfl⟩⟩)
  refine sw_skip ?_
  refine ⟨rfl, _, _, res_none rfl, ?_, ⟨by simpa using h, rfl, rfl⟩⟩
  repeat constructor

end Go.Proofs.Ytioechdfghglhaa

/- Walks: printed by a program of this session out of its script CodeC. -/
namespace Go.Proofs.Ytioechdfghglhaa
set_option linter.unusedVariables false
set_option linter.unusedSimpArgs false
set_option maxRecDepth 4000
set_option maxHeartbeats 4000000
open Go Go.RowKit SL


/-- num reads a number. -/
theorem rnum_ok (q : Nat) (l : List UInt8) (σ : List Chunk) :
    FSpecP Try.prog 73 [.ptr q 0] (rd q l false :: σ) (fun d σ' => ∃ v r, decN 0 l = some (v, r) ∧ d = .val (u64V v) ∧ σ' = rd q r false :: σ)
      (fun ch σ' => decN 0 l = none ∧ ch = stop ∧ ∃ r, σ' = rd q r false :: σ) := by
  refine spec_of_sw Try.func73 rfl ?_
  refine sw_seq ?_
  refine sl_region ?_
  refine sl_as rfl rfl rfl ?_
  refine sl_nil ?_
  refine sw_seq ?_
  refine sl_region ?_
  refine sl_as rfl rfl rfl ?_
  refine sl_nil ?_
  refine sw_seq ?_
  refine sl_region ?_
  refine sl_as rfl rfl rfl ?_
  refine sl_nil ?_
  refine sw_block ?_
  refine sw_loopw (fun nX sX δX σX => ∃ (i n : Nat) (m : List UInt8), (11 - i) = nX ∧ sX = ⟨60, (.cons 0 (.ptr q 0) (.cons 3 (.val (.int .u64 (n : Int))) (.cons 4 (.val (.int .i64 (i : Int))) .nil)))⟩ ∧ δX = [] ∧ σX = rd q m false :: σ ∧ (i ≤ 10) ∧ (n < 128 ^ i) ∧ (decN 0 l = (decN i m).map fun p => (n + 128 ^ i * p.1, p.2))) ?_ ?_
  · refine ⟨_, _, _, ?_, ?_, 0, 0, l, rfl, rfl, rfl, rfl, Nat.zero_le _, by decide, start_dec l⟩
    · exact ⟨rfl, by repeat constructor⟩
    · repeat constructor
  rintro nX sX δX σX ⟨i, n, m, rfl, rfl, rfl, rfl, hi, hn, hd⟩
  refine sw_seq ?_
  refine sw_block ?_
  refine sw_seq ?_
  refine sl_region ?_
  refine sl_mv rfl rfl rfl ?_
  refine sl_bin rfl rfl rfl rfl rfl ?_
  refine sl_mv rfl rfl rfl ?_
  refine sl_case_at 10 rfl (fun hc => ?_) (fun hc => ?_)
  · have hc1 : i < 10 := by have := of_decide_eq_true hc; omega
    refine sl_guard_y rfl rfl rfl hc ?_
    refine sl_mv rfl rfl rfl ?_
    refine sl_guard_y rfl rfl rfl hc ?_
    refine sl_nc rfl rfl rfl rfl ?_
    refine sl_guard_y rfl rfl rfl hc ?_
    first
      | refine sl_fieldAddr_ptr rfl rfl rfl fo_113_0 ?_
      | refine sl_fieldAddr_rp rfl rfl rfl fo_113_0 ?_
      | refine sl_fieldAddr_ref rfl rfl rfl fo_113_0 ?_
    refine sl_guard_y rfl rfl rfl hc ?_
    first
      | refine sl_load_rp1 rfl rfl rfl ag_26 rfl ?_
      | refine sl_load_blk1 rfl rfl rfl ag_26 (by repeat constructor) rfl ?_
    refine sl_guard_y rfl rfl rfl hc ?_
    first
      | refine sl_len rfl rfl rfl ⟨_, u_26⟩ ?_
      | refine sl_len_sl rfl rfl rfl ⟨_, u_26⟩ ?_
      | refine sl_len_w _ rfl rfl rfl ⟨_, u_26⟩ ?_
    refine sl_guard_y rfl rfl rfl hc ?_
    refine sl_bin rfl rfl rfl rfl rfl ?_
    refine sl_pk_t rfl rfl rfl hc rfl ?_
    refine sl_callf rfl rfl cal_98 (must_ok (decide ((((m.map byteV).length : Nat) : Int) > 0)) (rd q m false :: σ)) ?_ ?_ ?_ (fun _ _ h => by obtain ⟨hb, rfl, rfl⟩ := h; have hm := len_pos_false hb; subst hm; exact ⟨rfl, _, Sub.refl _, by rw [hd]; rfl, rfl, _, rfl⟩)
    · repeat constructor
    · repeat constructor
    rintro _ _ ⟨hb, rfl, rfl⟩
    obtain ⟨x, m, rfl⟩ := len_pos_true hb
    refine sl_nil ?_
    refine sw_seq ?_
    refine sl_region ?_
    refine sl_mv rfl rfl rfl ?_
    refine sl_nc rfl rfl rfl rfl ?_
    first
      | refine sl_fieldAddr_ptr rfl rfl rfl fo_113_0 ?_
      | refine sl_fieldAddr_rp rfl rfl rfl fo_113_0 ?_
      | refine sl_fieldAddr_ref rfl rfl rfl fo_113_0 ?_
    first
      | refine sl_load_rp1 rfl rfl rfl ag_26 rfl ?_
      | refine sl_load_blk1 rfl rfl rfl ag_26 (by repeat constructor) rfl ?_
    refine sl_indexAddr' rfl rfl rfl rfl u_26 sz_5 (by decide) rfl rfl ?_
    first
      | refine sl_load_rp1 rfl rfl rfl ag_5 rfl ?_
      | refine sl_load_blk1 rfl rfl rfl ag_5 (by repeat constructor) rfl ?_
    refine sl_as rfl rfl rfl ?_
    refine sl_nil ?_
    refine sw_seq ?_
    refine sl_region ?_
    refine sl_mv rfl rfl rfl ?_
    refine sl_mv rfl rfl rfl ?_
    refine sl_nc rfl rfl rfl rfl ?_
    first
      | refine sl_fieldAddr_ptr rfl rfl rfl fo_113_0 ?_
      | refine sl_fieldAddr_rp rfl rfl rfl fo_113_0 ?_
      | refine sl_fieldAddr_ref rfl rfl rfl fo_113_0 ?_
    first
      | refine sl_load_rp1 rfl rfl rfl ag_26 rfl ?_
      | refine sl_load_blk1 rfl rfl rfl ag_26 (by repeat constructor) rfl ?_
    refine sl_slice_list 1 _ rfl rfl rfl u_26 sz_5 (fun x hx => (SzI.get (by repeat constructor) x hx).1) ⟨_, rfl⟩ rfl (by simp) (Nat.le_refl _) ?_
    refine sl_set 30 (.val (.list (m.map byteV))) (drop_one x m) ?_
    refine sl_nc rfl rfl rfl rfl ?_
    first
      | refine sl_fieldAddr_ptr rfl rfl rfl fo_113_0 ?_
      | refine sl_fieldAddr_rp rfl rfl rfl fo_113_0 ?_
      | refine sl_fieldAddr_ref rfl rfl rfl fo_113_0 ?_
    refine sl_stp rfl rfl rfl rfl sz_26 rfl rfl rfl (by repeat constructor) (Nat.le_of_ble_eq_true rfl) ?_
    refine sl_nil ?_
    refine sw_seq ?_
    refine sw_cutk ⟨60, (.cons 0 (.ptr q 0) (.cons 3 (.val (.int .u64 (n : Int))) (.cons 4 (.val (.int .i64 (i : Int))) (.cons 5 (.val (.int .u8 (x.toNat : Int))) .nil))))⟩ (rd q m false :: σ) (i < 9 ∨ i = 9 ∧ x.toNat ≤ 1) ?_ ?_
    · refine sl_region ?_
      refine sl_mv rfl rfl rfl ?_
      refine sl_bin rfl rfl rfl rfl rfl ?_
      refine sl_mv rfl rfl rfl ?_
      refine sl_case_at 35 rfl (fun h9 => ?_) (fun h9 => ?_)
      · refine sl_guard_n rfl rfl rfl h9 ?_
        refine sl_guard_n rfl rfl rfl h9 ?_
        refine sl_pk_t rfl rfl rfl h9 rfl ?_
        refine sl_callf rfl rfl cal_98 (must_ok true (rd q m false :: σ)) ?_ ?_ ?_ (fun _ _ h => by cases h.1)
        · repeat constructor
        · repeat constructor
        rintro _ _ ⟨hb, rfl, rfl⟩
        refine sl_nil ?_
        refine ⟨?_, ?_, rfl, .inl (by have := of_decide_eq_true h9; omega)⟩
        · exact ⟨rfl, by repeat constructor⟩
        · repeat constructor
      have h91 : ¬ i < 9 := by have := of_decide_eq_false h9; omega
      refine sl_guard_y rfl rfl rfl h9 ?_
      refine sl_mv rfl rfl rfl ?_
      refine sl_guard_y rfl rfl rfl h9 ?_
      refine sl_bin rfl rfl rfl rfl rfl ?_
      refine sl_pk_f rfl rfl rfl h9 rfl ?_
      refine sl_callf rfl rfl cal_98 (must_ok (decide ((x.toNat : Int) ≤ 1)) (rd q m false :: σ)) ?_ ?_ ?_ (fun _ _ h => by obtain ⟨hb, rfl, rfl⟩ := h; exact ⟨rfl, _, Sub.refl _, by rw [hd, decN_great h91 (by have := of_decide_eq_false hb; omega)]; rfl, rfl, _, rfl⟩)
      · repeat constructor
      · repeat constructor
      rintro _ _ ⟨hb, rfl, rfl⟩
      refine sl_nil ?_
      refine ⟨?_, ?_, rfl, .inr ⟨by omega, by have := of_decide_eq_true hb; omega⟩⟩
      · exact ⟨rfl, by repeat constructor⟩
      · repeat constructor
    intro hj
    have hj2 : i < 9 ∧ x.toNat % 128 < 128 ∨ i = 9 ∧ x.toNat % 128 ≤ 1 := by omega
    refine sw_seq ?_
    refine sl_region ?_
    refine sl_mv rfl rfl rfl ?_
    refine sl_mv rfl rfl rfl ?_
    refine sl_bin rfl rfl rfl rfl rfl ?_
    refine sl_set 42 (.val (.int .u8 ((x.toNat % 128 : Nat) : Int))) (mask_byte x) ?_
    refine sl_conv_int rfl rfl rfl is_5 u_37 ?_
    refine sl_set 43 (.val (.int .u64 ((x.toNat % 128 : Nat) : Int))) (congrArg (fun z => D.val (.int .u64 z)) (wrapped_u64 _ (by omega))) ?_
    refine sl_mv rfl rfl rfl ?_
    refine sl_bin rfl rfl rfl rfl rfl ?_
    refine sl_set 45 (.val (.int .i64 ((7 * i : Nat) : Int))) (congrArg (fun z => D.val (.int .i64 z)) (wrap_i64 (n := ((7 * i : Nat) : Int)) (by omega) (by omega))) ?_
    refine sl_conv_int rfl rfl rfl is_3 u_110 ?_
    refine sl_set 46 (.val (.int .u64 ((7 * i : Nat) : Int))) (congrArg (fun z => D.val (.int .u64 z)) (wrapped_u64 _ (by omega))) ?_
    refine sl_shl rfl rfl rfl rfl (by omega) ?_
    refine sl_set 47 (.val (.int .u64 ((128 ^ i * (x.toNat % 128) : Nat) : Int))) (shl_part hj2) ?_
    refine sl_bin rfl rfl rfl rfl rfl ?_
    refine sl_set 48 (.val (.int .u64 ((n + 128 ^ i * (x.toNat % 128) : Nat) : Int))) (or_part hn hj2) ?_
    refine sl_as rfl rfl rfl ?_
    refine sl_nil ?_
    refine sw_seq ?_
    refine sl_region ?_
    refine sl_mv rfl rfl rfl ?_
    refine sl_bin rfl rfl rfl rfl rfl ?_
    refine sl_bin rfl rfl rfl rfl rfl ?_
    refine sl_set 51 (.val (.bool (decide (x.toNat < 128)))) (top_byte x) ?_
    refine sl_nil ?_
    refine sw_cond rfl (fun hx => ?_) (fun hx => ?_)
    · have hx : x.toNat < 128 := of_decide_eq_true hx
      refine sw_seq ?_
      refine sl_region ?_
      refine sl_mv rfl rfl rfl ?_
      refine sl_bin rfl rfl rfl rfl rfl ?_
      refine sl_mv rfl rfl rfl ?_
      refine sl_case_at 54 rfl (fun hz => ?_) (fun hz => ?_)
      · have hz1 : x.toNat ≠ 0 := by intro h; rw [h] at hz; simp at hz
        refine sl_guard_n rfl rfl rfl hz ?_
        refine sl_guard_n rfl rfl rfl hz ?_
        refine sl_pk_t rfl rfl rfl hz rfl ?_
        refine sl_callf rfl rfl cal_98 (must_ok true (rd q m false :: σ)) ?_ ?_ ?_ (fun _ _ h => by cases h.1)
        · repeat constructor
        · repeat constructor
        rintro _ _ ⟨hb, rfl, rfl⟩
        refine sl_nil ?_
        refine sw_seq ?_
        refine sl_region ?_
        refine sl_mv rfl rfl rfl ?_
        refine sl_as rfl rfl rfl ?_
        refine sl_nil ?_
        refine sw_ret ⟨rfl, _, _, res_one rfl rfl, ?_, ⟨_, m, fin_dec hd (decN_last hj hx (.inl hz1)) hx, rfl, rfl⟩⟩
        repeat constructor
      have hz1 : x.toNat = 0 := by simpa using hz
      refine sl_guard_y rfl rfl rfl hz ?_
      refine sl_mv rfl rfl rfl ?_
      refine sl_guard_y rfl rfl rfl hz ?_
      refine sl_bin rfl rfl rfl rfl rfl ?_
      refine sl_pk_f rfl rfl rfl hz rfl ?_
      refine sl_callf rfl rfl cal_98 (must_ok ((i : Int) == 0) (rd q m false :: σ)) ?_ ?_ ?_ (fun _ _ h => by obtain ⟨hb, rfl, rfl⟩ := h; exact ⟨rfl, _, Sub.refl _, by rw [hd, decN_nought hz1 (by simpa using hb)]; rfl, rfl, _, rfl⟩)
      · repeat constructor
      · repeat constructor
      rintro _ _ ⟨hb, rfl, rfl⟩
      have hb : i = 0 := by simpa using hb
      refine sl_nil ?_
      refine sw_seq ?_
      refine sl_region ?_
      refine sl_mv rfl rfl rfl ?_
      refine sl_as rfl rfl rfl ?_
      refine sl_nil ?_
      refine sw_ret ⟨rfl, _, _, res_one rfl rfl, ?_, ⟨_, m, fin_dec hd (decN_last hj hx (.inr hb)) hx, rfl, rfl⟩⟩
      repeat constructor
    have hx : ¬ x.toNat < 128 := of_decide_eq_false hx
    refine sw_skip ?_
    refine sl_region ?_
    refine sl_mv rfl rfl rfl ?_
    first
      | refine sl_inc rfl rfl rfl rfl (by omega) ?_
      | refine sl_add rfl rfl rfl rfl (by constructor <;> omega) ?_
      | refine sl_bin rfl rfl rfl rfl rfl ?_
    refine sl_as rfl rfl rfl ?_
    refine sl_nil ?_
    refine ⟨_, by omega, _, _, ?_, ?_, i + 1, n + 128 ^ i * (x.toNat % 128), m, rfl, rfl, rfl, rfl, by omega, step_lt hn (by omega), step_dec hd hj hx⟩
    · exact ⟨rfl, by repeat constructor⟩
    · repeat constructor
  have hc1 : ¬ i < 10 := by have := of_decide_eq_false hc; omega
  refine sl_guard_n rfl rfl rfl hc ?_
  refine sl_guard_n rfl rfl rfl hc ?_
  refine sl_guard_n rfl rfl rfl hc ?_
  refine sl_guard_n rfl rfl rfl hc ?_
  refine sl_guard_n rfl rfl rfl hc ?_
  refine sl_guard_n rfl rfl rfl hc ?_
  refine sl_pk_f rfl rfl rfl hc rfl ?_
  refine sl_callf rfl rfl cal_98 (must_ok false (rd q m false :: σ)) ?_ ?_ ?_ (fun _ _ h => by obtain ⟨_, rfl, rfl⟩ := h; exact ⟨rfl, _, Sub.refl _, by rw [hd, decN_long hc1]; rfl, rfl, _, rfl⟩)
  · repeat constructor
  · repeat constructor
  rintro _ _ ⟨⟨⟩, _, _⟩

/-- int reads a number with a sign. -/
theorem rint_ok (q : Nat) (l : List UInt8) (σ : List Chunk) :
    FSpecP Try.prog 62 [.ptr q 0] (rd q l false :: σ) (fun d σ' => ∃ v r, decI l = some (v, r) ∧ d = .val (i64V v) ∧ σ' = rd q r false :: σ)
      (fun ch σ' => decI l = none ∧ ch = stop ∧ ∃ r, σ' = rd q r false :: σ) := by
  refine spec_of_sw Try.func62 rfl ?_
  refine sw_seq ?_
  refine sl_region ?_
  refine sl_as rfl rfl rfl ?_
  refine sl_nil ?_
  refine sw_seq ?_
  refine sl_region ?_
  refine sl_mv rfl rfl rfl ?_
  refine sl_callf rfl rfl cal_73 (rnum_ok q l σ) ?_ ?_ ?_ (fun _ _ h => by obtain ⟨h1, rfl, r, rfl⟩ := h; exact ⟨rfl, _, Sub.refl _, by unfold decI; rw [h1]; rfl, rfl, _, rfl⟩)
  · repeat constructor
  · repeat constructor
  rintro _ _ ⟨n, r, hd, rfl, rfl⟩
  refine sl_as rfl rfl rfl ?_
  refine sl_nil ?_
  refine sw_seq ?_
  refine sl_region ?_
  refine sl_mv rfl rfl rfl ?_
  refine sl_shr rfl rfl rfl rfl (by decide) ?_
  refine sl_conv_int rfl rfl rfl is_37 u_2 ?_
  refine sl_mv rfl rfl rfl ?_
  refine sl_bin rfl rfl rfl rfl rfl ?_
  refine sl_conv_int rfl rfl rfl is_37 u_2 ?_
  refine sl_neg rfl rfl rfl ?_
  refine sl_bin rfl rfl rfl rfl rfl ?_
  refine sl_set 13 (.val (i64V (unzig n))) (unzig_bits (decN_lt64 hd)) ?_
  refine sl_as rfl rfl rfl ?_
  refine sl_nil ?_
  refine sw_ret ⟨rfl, _, _, res_one rfl rfl, ?_, ⟨_, r, by unfold decI; rw [hd]; rfl, rfl, rfl⟩⟩
  repeat constructor

end Go.Proofs.Ytioechdfghglhaa

/- Walks: printed by a program of this session out of its script CodeD. -/
namespace Go.Proofs.Ytioechdfghglhaa
set_option linter.unusedVariables false
set_option linter.unusedSimpArgs false
set_option maxRecDepth 4000
set_option maxHeartbeats 4000000
open Go Go.RowKit SL


/-- text reads a text. -/
theorem rtext_ok (q : Nat) (l : List UInt8) (σ : List Chunk) (hl : l.length ≤ 100000000) :
    FSpecP Try.prog 71 [.ptr q 0] (rd q l false :: σ) (fun d σ' => ∃ v r, decT l = some (v, r) ∧ d = .val (strV v) ∧ σ' = rd q r false :: σ)
      (fun ch σ' => decT l = none ∧ ch = stop ∧ ∃ r, σ' = rd q r false :: σ) := by
  refine spec_of_sw Try.func71 rfl ?_
  refine sw_seq ?_
  refine sl_region ?_
  refine sl_as rfl rfl rfl ?_
  refine sl_nil ?_
  refine sw_seq ?_
  refine sl_region ?_
  refine sl_mv rfl rfl rfl ?_
  refine sl_callf rfl rfl cal_73 (rnum_ok q l σ) ?_ ?_ ?_ (fun _ _ h => by obtain ⟨h1, rfl, r, rfl⟩ := h; exact ⟨rfl, _, Sub.refl _, by unfold decT; rw [h1], rfl, _, rfl⟩)
  · repeat constructor
  · repeat constructor
  rintro _ _ ⟨n, r, hd, rfl, rfl⟩
  refine sl_as rfl rfl rfl ?_
  refine sl_nil ?_
  refine sw_seq ?_
  refine sl_region ?_
  refine sl_mv rfl rfl rfl ?_
  refine sl_mv rfl rfl rfl ?_
  refine sl_nc rfl rfl rfl rfl ?_
  first
    | refine sl_fieldAddr_ptr rfl rfl rfl fo_113_0 ?_
    | refine sl_fieldAddr_rp rfl rfl rfl fo_113_0 ?_
    | refine sl_fieldAddr_ref rfl rfl rfl fo_113_0 ?_
  first
    | refine sl_load_rp1 rfl rfl rfl ag_26 rfl ?_
    | refine sl_load_blk1 rfl rfl rfl ag_26 (by repeat constructor) rfl ?_
  first
    | refine sl_len rfl rfl rfl ⟨_, u_26⟩ ?_
    | refine sl_len_sl rfl rfl rfl ⟨_, u_26⟩ ?_
    | refine sl_len_w _ rfl rfl rfl ⟨_, u_26⟩ ?_
  refine sl_conv_int rfl rfl rfl is_3 u_37 ?_
  have hr := Nat.le_trans (decN_len hd) hl
  refine sl_set 13 (.val (.int .u64 (r.length : Int))) (len_u64 hr) ?_
  refine sl_bin rfl rfl rfl rfl rfl ?_
  refine sl_callf rfl rfl cal_98 (must_ok (decide ((n : Int) ≤ (r.length : Int))) (rd q r false :: σ)) ?_ ?_ ?_ (fun _ _ h => by obtain ⟨hb, rfl, rfl⟩ := h; exact ⟨rfl, _, Sub.refl _, by unfold decT; rw [hd]; exact if_neg (by have := of_decide_eq_false hb; omega), rfl, _, rfl⟩)
  · repeat constructor
  · repeat constructor
  rintro _ _ ⟨hb, rfl, rfl⟩
  have hb : n ≤ r.length := by have := of_decide_eq_true hb; omega
  refine sl_nil ?_
  refine sw_seq ?_
  refine sl_region ?_
  refine sl_mv rfl rfl rfl ?_
  refine sl_nc rfl rfl rfl rfl ?_
  first
    | refine sl_fieldAddr_ptr rfl rfl rfl fo_113_0 ?_
    | refine sl_fieldAddr_rp rfl rfl rfl fo_113_0 ?_
    | refine sl_fieldAddr_ref rfl rfl rfl fo_113_0 ?_
  first
    | refine sl_load_rp1 rfl rfl rfl ag_26 rfl ?_
    | refine sl_load_blk1 rfl rfl rfl ag_26 (by repeat constructor) rfl ?_
  refine sl_mv rfl rfl rfl ?_
  refine sl_slice_list 0 n rfl rfl rfl u_26 sz_5 (fun x hx => (SzI.get (by repeat constructor) x hx).1) rfl ⟨_, rfl⟩ (Nat.zero_le _) (by simp; omega) ?_
  refine sl_set 21 (.val (.list ((r.take n).map byteV))) (take_bytes r n) ?_
  refine sl_bytes_str rfl rfl rfl u_26 u_5 u_9 ?_
  refine sl_as rfl rfl rfl ?_
  refine sl_nil ?_
  refine sw_seq ?_
  refine sl_region ?_
  refine sl_mv rfl rfl rfl ?_
  refine sl_mv rfl rfl rfl ?_
  refine sl_nc rfl rfl rfl rfl ?_
  first
    | refine sl_fieldAddr_ptr rfl rfl rfl fo_113_0 ?_
    | refine sl_fieldAddr_rp rfl rfl rfl fo_113_0 ?_
    | refine sl_fieldAddr_ref rfl rfl rfl fo_113_0 ?_
  first
    | refine sl_load_rp1 rfl rfl rfl ag_26 rfl ?_
    | refine sl_load_blk1 rfl rfl rfl ag_26 (by repeat constructor) rfl ?_
  refine sl_mv rfl rfl rfl ?_
  refine sl_slice_list n _ rfl rfl rfl u_26 sz_5 (fun x hx => (SzI.get (by repeat constructor) x hx).1) ⟨_, rfl⟩ rfl (by simp; omega) (Nat.le_refl _) ?_
  refine sl_set 29 (.val (.list ((r.drop n).map byteV))) (drop_bytes r n) ?_
  refine sl_nc rfl rfl rfl rfl ?_
  first
    | refine sl_fieldAddr_ptr rfl rfl rfl fo_113_0 ?_
    | refine sl_fieldAddr_rp rfl rfl rfl fo_113_0 ?_
    | refine sl_fieldAddr_ref rfl rfl rfl fo_113_0 ?_
  refine sl_stp rfl rfl rfl rfl sz_26 rfl rfl rfl (by repeat constructor) (Nat.le_of_ble_eq_true rfl) ?_
  refine sl_nil ?_
  refine sw_seq ?_
  refine sl_region ?_
  refine sl_mv rfl rfl rfl ?_
  refine sl_as rfl rfl rfl ?_
  refine sl_nil ?_
  refine sw_ret ⟨rfl, _, _, res_one rfl rfl, ?_, ⟨_, _, by unfold decT; rw [hd]; exact if_pos hb, rfl, rfl⟩⟩
  repeat constructor

/-- bool reads a truth. -/
theorem rbool_ok (q : Nat) (l : List UInt8) (σ : List Chunk) :
    FSpecP Try.prog 75 [.ptr q 0] (rd q l false :: σ) (fun d σ' => ∃ v r, decB l = some (v, r) ∧ d = .val (boolV v) ∧ σ' = rd q r false :: σ)
      (fun ch σ' => decB l = none ∧ ch = stop ∧ ∃ r, σ' = rd q r false :: σ) := by
  refine spec_of_sw Try.func75 rfl ?_
  refine sw_seq ?_
  refine sl_region ?_
  refine sl_as rfl rfl rfl ?_
  refine sl_nil ?_
  refine sw_seq ?_
  refine sl_region ?_
  refine sl_mv rfl rfl rfl ?_
  refine sl_nc rfl rfl rfl rfl ?_
  first
    | refine sl_fieldAddr_ptr rfl rfl rfl fo_113_0 ?_
    | refine sl_fieldAddr_rp rfl rfl rfl fo_113_0 ?_
    | refine sl_fieldAddr_ref rfl rfl rfl fo_113_0 ?_
  first
    | refine sl_load_rp1 rfl rfl rfl ag_26 rfl ?_
    | refine sl_load_blk1 rfl rfl rfl ag_26 (by repeat constructor) rfl ?_
  first
    | refine sl_len rfl rfl rfl ⟨_, u_26⟩ ?_
    | refine sl_len_sl rfl rfl rfl ⟨_, u_26⟩ ?_
    | refine sl_len_w _ rfl rfl rfl ⟨_, u_26⟩ ?_
  refine sl_bin rfl rfl rfl rfl rfl ?_
  refine sl_mv rfl rfl rfl ?_
  refine sl_case_at 10 rfl (fun hc => ?_) (fun hc => ?_)
  · obtain ⟨x, m, rfl⟩ := len_pos_true hc
    refine sl_guard_y rfl rfl rfl hc ?_
    refine sl_mv rfl rfl rfl ?_
    refine sl_guard_y rfl rfl rfl hc ?_
    refine sl_nc rfl rfl rfl rfl ?_
    refine sl_guard_y rfl rfl rfl hc ?_
    first
      | refine sl_fieldAddr_ptr rfl rfl rfl fo_113_0 ?_
      | refine sl_fieldAddr_rp rfl rfl rfl fo_113_0 ?_
      | refine sl_fieldAddr_ref rfl rfl rfl fo_113_0 ?_
    refine sl_guard_y rfl rfl rfl hc ?_
    first
      | refine sl_load_rp1 rfl rfl rfl ag_26 rfl ?_
      | refine sl_load_blk1 rfl rfl rfl ag_26 (by repeat constructor) rfl ?_
    refine sl_guard_y rfl rfl rfl hc ?_
    refine sl_indexAddr' rfl rfl rfl rfl u_26 sz_5 (by decide) rfl rfl ?_
    refine sl_guard_y rfl rfl rfl hc ?_
    first
      | refine sl_load_rp1 rfl rfl rfl ag_5 rfl ?_
      | refine sl_load_blk1 rfl rfl rfl ag_5 (by repeat constructor) rfl ?_
    refine sl_guard_y rfl rfl rfl hc ?_
    refine sl_bin rfl rfl rfl rfl rfl ?_
    refine sl_pk_t rfl rfl rfl hc rfl ?_
    refine sl_callf rfl rfl cal_98 (must_ok (decide ((x.toNat : Int) ≤ 1)) (rd q (x :: m) false :: σ)) ?_ ?_ ?_ (fun _ _ h => by obtain ⟨hb, rfl, rfl⟩ := h; exact ⟨rfl, _, Sub.refl _, if_neg (by have := of_decide_eq_false hb; omega), rfl, _, rfl⟩)
    · repeat constructor
    · repeat constructor
    rintro _ _ ⟨hb, rfl, rfl⟩
    have hb : x.toNat ≤ 1 := by have := of_decide_eq_true hb; omega
    refine sl_nil ?_
    refine sw_seq ?_
    refine sl_region ?_
    refine sl_mv rfl rfl rfl ?_
    refine sl_nc rfl rfl rfl rfl ?_
    first
      | refine sl_fieldAddr_ptr rfl rfl rfl fo_113_0 ?_
      | refine sl_fieldAddr_rp rfl rfl rfl fo_113_0 ?_
      | refine sl_fieldAddr_ref rfl rfl rfl fo_113_0 ?_
    first
      | refine sl_load_rp1 rfl rfl rfl ag_26 rfl ?_
      | refine sl_load_blk1 rfl rfl rfl ag_26 (by repeat constructor) rfl ?_
    refine sl_indexAddr' rfl rfl rfl rfl u_26 sz_5 (by decide) rfl rfl ?_
    first
      | refine sl_load_rp1 rfl rfl rfl ag_5 rfl ?_
      | refine sl_load_blk1 rfl rfl rfl ag_5 (by repeat constructor) rfl ?_
    refine sl_bin rfl rfl rfl rfl rfl ?_
    refine sl_set 26 (.val (boolV (x.toNat == 1))) (is_one x) ?_
    refine sl_as rfl rfl rfl ?_
    refine sl_nil ?_
    refine sw_seq ?_
    refine sl_region ?_
    refine sl_mv rfl rfl rfl ?_
    refine sl_mv rfl rfl rfl ?_
    refine sl_nc rfl rfl rfl rfl ?_
    first
      | refine sl_fieldAddr_ptr rfl rfl rfl fo_113_0 ?_
      | refine sl_fieldAddr_rp rfl rfl rfl fo_113_0 ?_
      | refine sl_fieldAddr_ref rfl rfl rfl fo_113_0 ?_
    first
      | refine sl_load_rp1 rfl rfl rfl ag_26 rfl ?_
      | refine sl_load_blk1 rfl rfl rfl ag_26 (by repeat constructor) rfl ?_
    refine sl_slice_list 1 _ rfl rfl rfl u_26 sz_5 (fun x hx => (SzI.get (by repeat constructor) x hx).1) ⟨_, rfl⟩ rfl (by simp) (Nat.le_refl _) ?_
    refine sl_set 32 (.val (.list (m.map byteV))) (drop_one x m) ?_
    refine sl_nc rfl rfl rfl rfl ?_
    first
      | refine sl_fieldAddr_ptr rfl rfl rfl fo_113_0 ?_
      | refine sl_fieldAddr_rp rfl rfl rfl fo_113_0 ?_
      | refine sl_fieldAddr_ref rfl rfl rfl fo_113_0 ?_
    refine sl_stp rfl rfl rfl rfl sz_26 rfl rfl rfl (by repeat constructor) (Nat.le_of_ble_eq_true rfl) ?_
    refine sl_nil ?_
    refine sw_seq ?_
    refine sl_region ?_
    refine sl_mv rfl rfl rfl ?_
    refine sl_as rfl rfl rfl ?_
    refine sl_nil ?_
    refine sw_ret ⟨rfl, _, _, res_one rfl rfl, ?_, ⟨_, m, if_pos hb, rfl, rfl⟩⟩
    repeat constructor
  have hl := len_pos_false hc
  subst hl
  refine sl_guard_n rfl rfl rfl hc ?_
  refine sl_guard_n rfl rfl rfl hc ?_
  refine sl_guard_n rfl rfl rfl hc ?_
  refine sl_guard_n rfl rfl rfl hc ?_
  refine sl_guard_n rfl rfl rfl hc ?_
  refine sl_guard_n rfl rfl rfl hc ?_
  refine sl_guard_n rfl rfl rfl hc ?_
  refine sl_pk_f rfl rfl rfl hc rfl ?_
  refine sl_callf rfl rfl cal_98 (must_ok false (rd q [] false :: σ)) ?_ ?_ ?_ (fun _ _ h => by obtain ⟨_, rfl, rfl⟩ := h; exact ⟨rfl, _, Sub.refl _, rfl, rfl, _, rfl⟩)
  · repeat constructor
  · repeat constructor
  rintro _ _ ⟨⟨⟩, _, _⟩

/-- What try defers: nothing was raised. -/
theorem dtry_none (q b2 b4 : Nat) (x y : D) (σ : List Chunk) :
    DSpec Try.prog 92 [.ptr b2 0, .ptr b4 0] (.blk b2 [.ptr q 0] :: .blk b4 [y] :: .blk q [x, .val (.bool false)] :: σ) none
      (fun σ' => σ' = .blk b2 [.ptr q 0] :: .blk b4 [y] :: .blk q [x, .val (.bool false)] :: σ) := by
  refine dspec_recover (x := none) Try.func92 rfl rfl rfl rfl rfl (.val .nilIface) (fun C => .val _ _ .nilIface) rfl ?_
  refine sw_seq ?_
  refine sl_region ?_
  refine sl_mv rfl rfl rfl ?_
  refine sl_ne_if rfl rfl rfl ii_20 ?_
  refine sl_nil ?_
  refine sw_false rfl (rfl) ?_
  refine sw_skip ?_
  refine ⟨rfl, _, _, res_none rfl, ?_, rfl⟩
  repeat constructor

/-- What try defers: it was stopped. -/
theorem dtry_some (q b2 b4 : Nat) (x y : D) (σ : List Chunk) :
    DSpec Try.prog 92 [.ptr b2 0, .ptr b4 0] (.blk b2 [.ptr q 0] :: .blk b4 [y] :: .blk q [x, .val (.bool false)] :: σ) (some (.iface 138 (.agg #[])))
      (fun σ' => σ' = .blk b2 [.ptr q 0] :: .blk b4 [.val (.bool false)] :: .blk q [x, .val (.bool true)] :: σ) := by
  refine dspec_recover (x := some (.iface 138 (.agg #[]))) Try.func92 rfl rfl rfl rfl rfl (.iface 138 (.agg [])) (fun C => .iface _ _ _ (.agg _ _ rfl (fun k hk => absurd hk (by simp)))) rfl ?_
  refine sw_seq ?_
  refine sl_region ?_
  refine sl_mv rfl rfl rfl ?_
  refine sl_ne_if rfl rfl rfl ii_20 ?_
  refine sl_nil ?_
  refine sw_true rfl (rfl) ?_
  refine sw_seq ?_
  refine sw_seq ?_
  refine sl_region ?_
  refine sl_mv rfl rfl rfl ?_
  refine sl_ta rfl rfl rfl ni_138 ?_
  refine sl_mv rfl rfl rfl ?_
  refine sl_extract rfl rfl rfl rfl ?_
  refine sl_extract rfl rfl rfl rfl ?_
  refine sl_alloc rfl rfl zd_138 (fun b3 => ?_)
  refine sl_stp rfl rfl rfl rfl sz_138 rfl rfl rfl (by repeat constructor) (Nat.le_of_ble_eq_true rfl) ?_
  refine sl_as rfl rfl rfl ?_
  refine sl_nil ?_
  refine sw_seq ?_
  refine sl_region ?_
  refine sl_mv rfl rfl rfl ?_
  refine sl_not rfl rfl rfl ?_
  refine sl_nil ?_
  refine sw_false rfl (rfl) ?_
  refine sw_skip ?_
  refine sl_region ?_
  first
    | refine sl_load_rp1 rfl rfl rfl ag_31 rfl ?_
    | refine sl_load_blk1 rfl rfl rfl ag_31 (by repeat constructor) rfl ?_
  refine sl_nc rfl rfl rfl rfl ?_
  first
    | refine sl_fieldAddr_ptr rfl rfl rfl fo_113_1 ?_
    | refine sl_fieldAddr_rp rfl rfl rfl fo_113_1 ?_
    | refine sl_fieldAddr_ref rfl rfl rfl fo_113_1 ?_
  refine sl_stp rfl rfl rfl rfl sz_4 rfl rfl rfl (by repeat constructor) (Nat.le_of_ble_eq_true rfl) ?_
  refine sl_stp rfl rfl rfl rfl sz_4 rfl rfl rfl (by repeat constructor) (Nat.le_of_ble_eq_true rfl) ?_
  refine sl_nil ?_
  refine ⟨rfl, _, _, res_none rfl, ?_, rfl⟩
  repeat constructor

/-- try, of a reader that has failed. -/
theorem try_bad (fd : D) (q : Nat) (x : D) (σ : List Chunk) :
    FSpec Try.prog 60 [.ptr q 0, fd] (.blk q [x, .val (.bool true)] :: σ) (fun d σ' => d = .val (.bool false) ∧ σ' = .blk q [x, .val (.bool true)] :: σ) := by
  refine spec_of_defer Try.func60 rfl ?_
  refine sw_seq ?_
  refine sl_region ?_
  refine sl_bx rfl rfl rfl rfl (fun b2 => ?_)
  refine sl_alloc rfl rfl zd_4 (fun b4 => ?_)
  refine sl_nil ?_
  refine sw_seq ?_
  refine sw_seq ?_
  refine sl_region ?_
  first
    | refine sl_load_rp1 rfl rfl rfl ag_31 rfl ?_
    | refine sl_load_blk1 rfl rfl rfl ag_31 (by repeat constructor) rfl ?_
  refine sl_nc rfl rfl rfl rfl ?_
  first
    | refine sl_fieldAddr_ptr rfl rfl rfl fo_113_1 ?_
    | refine sl_fieldAddr_rp rfl rfl rfl fo_113_1 ?_
    | refine sl_fieldAddr_ref rfl rfl rfl fo_113_1 ?_
  first
    | refine sl_load_rp1 rfl rfl rfl ag_4 rfl ?_
    | refine sl_load_blk1 rfl rfl rfl ag_4 (by repeat constructor) rfl ?_
  refine sl_nil ?_
  refine sw_true rfl (rfl) ?_
  refine sw_seq ?_
  refine sl_region ?_
  refine sl_stp rfl rfl rfl rfl sz_4 rfl rfl rfl (by repeat constructor) (Nat.le_of_ble_eq_true rfl) ?_
  refine sl_nil ?_
  refine sw_ret ⟨rfl, _, _, res_cell rfl rfl ag_4 (by repeat constructor) rfl, ?_, ⟨rfl, rfl⟩⟩
  repeat constructor

/-- try, of a reader that hasn't. -/
theorem try_ok (g : FuncId) (hg : callable Try.prog g = true) (q b1 b3 : Nat) (x : D) (xs : List D) (Good : D → List D → Prop) (Bad : D → Prop) (σ : List Chunk)
    (hs : ∀ τ, FSpecP Try.prog g [.ptr b1 0, .ptr b3 0] (.blk q [x, .val (.bool false)] :: .blk b1 [.ptr q 0] :: .blk b3 xs :: τ)
      (fun d σ' => ∃ x' xs', Good x' xs' ∧ σ' = .blk q [x', .val (.bool false)] :: .blk b1 [.ptr q 0] :: .blk b3 xs' :: τ)
      (fun ch σ' => ch = stop ∧ ∃ x' xs', Bad x' ∧ σ' = .blk q [x', .val (.bool false)] :: .blk b1 [.ptr q 0] :: .blk b3 xs' :: τ)) :
    FSpec Try.prog 60 [.ptr q 0, .func g [.ptr b1 0, .ptr b3 0]] (.blk q [x, .val (.bool false)] :: .blk b1 [.ptr q 0] :: .blk b3 xs :: σ)
      (fun d σ' => ∃ x' xs' ok, d = .val (.bool ok) ∧ (ok = true → Good x' xs') ∧ (ok = false → Bad x') ∧ σ' = .blk q [x', .val (.bool (!ok))] :: .blk b1 [.ptr q 0] :: .blk b3 xs' :: σ) := by
  refine spec_of_defer Try.func60 rfl ?_
  refine sw_seq ?_
  refine sl_region ?_
  refine sl_bx rfl rfl rfl rfl (fun b2 => ?_)
  refine sl_alloc rfl rfl zd_4 (fun b4 => ?_)
  refine sl_nil ?_
  refine sw_seq ?_
  refine sw_seq ?_
  refine sl_region ?_
  first
    | refine sl_load_rp1 rfl rfl rfl ag_31 rfl ?_
    | refine sl_load_blk1 rfl rfl rfl ag_31 (by repeat constructor) rfl ?_
  refine sl_nc rfl rfl rfl rfl ?_
  first
    | refine sl_fieldAddr_ptr rfl rfl rfl fo_113_1 ?_
    | refine sl_fieldAddr_rp rfl rfl rfl fo_113_1 ?_
    | refine sl_fieldAddr_ref rfl rfl rfl fo_113_1 ?_
  first
    | refine sl_load_rp1 rfl rfl rfl ag_4 rfl ?_
    | refine sl_load_blk1 rfl rfl rfl ag_4 (by repeat constructor) rfl ?_
  refine sl_nil ?_
  refine sw_false rfl (rfl) ?_
  refine sw_skip ?_
  refine sw_seq ?_
  refine sl_region ?_
  refine sl_mf rfl rfl (.cons rfl (.cons rfl .nil)) ?_
  refine sl_defer rfl rfl rfl rfl ?_
  refine sl_nil ?_
  refine sw_seq ?_
  refine sl_region ?_
  refine sl_mv rfl rfl rfl ?_
  refine sl_callv rfl rfl rfl hg (hs (.blk b2 [.ptr q 0] :: .blk b4 [.val (.bool false)] :: σ)) ?_ ?_ ?_ (fun _ _ h => by obtain ⟨rfl, x', xs', hbad, rfl⟩ := h; exact ⟨_, rfl, cal_92, DSpec.use (dtry_some q b2 b4 x' (.val (.bool false)) (.blk b1 [.ptr q 0] :: .blk b3 xs' :: σ)) (by repeat constructor) (fun σ'' h => by subst h; exact ⟨_, _, res_cell rfl rfl ag_4 (by repeat constructor) rfl, (by repeat constructor), x', xs', false, rfl, fun h => absurd h (by decide), fun _ => hbad, rfl⟩)⟩)
  · repeat constructor
  · repeat constructor
  rintro _ _ ⟨x', xs', hgood, rfl⟩
  refine sl_nil ?_
  refine sw_seq ?_
  refine sl_region ?_
  refine sl_stp rfl rfl rfl rfl sz_4 rfl rfl rfl (by repeat constructor) (Nat.le_of_ble_eq_true rfl) ?_
  refine sl_nil ?_
  refine sw_ret ⟨cal_92, DSpec.use (dtry_none q b2 b4 x' (.val (.bool true)) (.blk b1 [.ptr q 0] :: .blk b3 xs' :: σ)) (by repeat constructor) (fun σ'' h => by subst h; exact ⟨_, _, res_cell rfl rfl ag_4 (by repeat constructor) rfl, (by repeat constructor), x', xs', true, rfl, fun _ => hgood, fun h => absurd h (by decide), rfl⟩)⟩

theorem cInt_ok (q b1 b3 : Nat) (y : D) (l : List UInt8) (σ : List Chunk) :
    FSpecP Try.prog 61 [.ptr b1 0, .ptr b3 0] (rd q l false :: .blk b1 [.ptr q 0] :: .blk b3 [y] :: σ)
      (fun d σ' => ∃ x' xs', GoodR (decI l) i64V x' xs' ∧ σ' = .blk q [x', .val (.bool false)] :: .blk b1 [.ptr q 0] :: .blk b3 xs' :: σ)
      (fun ch σ' => ch = stop ∧ ∃ x' xs', BadR (decI l) x' ∧ σ' = .blk q [x', .val (.bool false)] :: .blk b1 [.ptr q 0] :: .blk b3 xs' :: σ) := by
  refine spec_of_sw Try.func61 rfl ?_
  refine sl_region ?_
  first
    | refine sl_load_rp1 rfl rfl rfl ag_31 rfl ?_
    | refine sl_load_blk1 rfl rfl rfl ag_31 (by repeat constructor) rfl ?_
  refine sl_callf rfl rfl cal_62 (rint_ok q l (.blk b1 [.ptr q 0] :: .blk b3 [y] :: σ)) ?_ ?_ ?_ (fun _ _ h => by obtain ⟨h1, rfl, r, rfl⟩ := h; exact ⟨rfl, _, Sub.refl _, rfl, _, _, ⟨h1, _, rfl⟩, rfl⟩)
  · repeat constructor
  · repeat constructor
  rintro _ _ ⟨n, r, hd, rfl, rfl⟩
  refine sl_stp rfl rfl rfl rfl sz_2 rfl rfl rfl (by repeat constructor) (Nat.le_of_ble_eq_true rfl) ?_
  refine sl_nil ?_
  refine ⟨rfl, _, _, res_none rfl, ?_, ⟨_, _, ⟨_, _, hd, rfl, rfl⟩, rfl⟩⟩
  repeat constructor

/-- Int, of a reader. -/
theorem pInt_good (q : Nat) (l : List UInt8) (σ : List Chunk) (hl : l.length ≤ 100000000) :
    FSpec Try.prog 20 [.ptr q 0] (rd q l false :: σ) (fun d σ' => d = .val (i64V (rdOf (decI) (0 : Int) (some l)).1) ∧ ∃ c', Rdr q (rdOf (decI) (0 : Int) (some l)).2 c' ∧ σ' = c' :: σ) := by
  refine spec_of_sw Try.func20 rfl ?_
  refine sw_seq ?_
  refine sl_region ?_
  refine sl_bx rfl rfl rfl rfl (fun b1 => ?_)
  refine sl_as rfl rfl rfl ?_
  refine sl_nil ?_
  refine sw_seq ?_
  refine sl_region ?_
  refine sl_alloc rfl rfl zd_2 (fun b3 => ?_)
  refine sl_nil ?_
  refine sw_seq ?_
  refine sw_seq ?_
  refine sl_region ?_
  first
    | refine sl_load_rp1 rfl rfl rfl ag_31 rfl ?_
    | refine sl_load_blk1 rfl rfl rfl ag_31 (by repeat constructor) rfl ?_
  refine sl_mf rfl rfl (.cons rfl (.cons rfl .nil)) ?_
  refine sl_callf rfl rfl cal_60 (try_ok 61 cal_61 q b1 b3 (.val (.list (l.map byteV))) [.val (i64V (0 : Int))] (GoodR (decI l) i64V) (BadR (decI l)) σ (fun τ => cInt_ok q b1 b3 _ l τ)) ?_ ?_ ?_ (fun _ _ h => h.elim)
  · repeat constructor
  · repeat constructor
  rintro _ _ ⟨x', xs', ok, rfl, hgood, hbad, rfl⟩
  refine sl_nil ?_
  refine sw_cond rfl (fun hok => ?_) (fun hok => ?_)
  · obtain rfl : ok = true := hok
    obtain ⟨v, r, hd, rfl, rfl⟩ := hgood rfl
    refine sl_region ?_
    first
      | refine sl_load_rp1 rfl rfl rfl ag_2 rfl ?_
      | refine sl_load_blk1 rfl rfl rfl ag_2 (by repeat constructor) rfl ?_
    refine sl_as rfl rfl rfl ?_
    refine sl_nil ?_
    refine sw_seq ?_
    refine sl_region ?_
    refine sl_mv rfl rfl rfl ?_
    refine sl_as rfl rfl rfl ?_
    refine sl_nil ?_
    refine sw_ret ⟨rfl, _, _, res_one rfl rfl, ?_, by rw [rdOf_good hd]; exact ⟨rfl, _, ⟨rfl, Nat.le_trans (decI_len hd) hl⟩, rfl⟩⟩
    repeat constructor
  obtain rfl : ok = false := hok
  obtain ⟨hd, r, rfl⟩ := hbad rfl
  refine sw_skip ?_
  refine sw_seq ?_
  refine sl_region ?_
  refine sl_mv rfl rfl rfl ?_
  refine sl_as rfl rfl rfl ?_
  refine sl_nil ?_
  refine sw_ret ⟨rfl, _, _, res_one rfl rfl, ?_, by rw [rdOf_bad hd]; exact ⟨rfl, _, ⟨r, rfl⟩, rfl⟩⟩
  repeat constructor

theorem pInt_bad (q : Nat) (l : List UInt8) (σ : List Chunk) :
    FSpec Try.prog 20 [.ptr q 0] (rd q l true :: σ) (fun d σ' => d = .val (i64V (0 : Int)) ∧ σ' = rd q l true :: σ) := by
  refine spec_of_sw Try.func20 rfl ?_
  refine sw_seq ?_
  refine sl_region ?_
  refine sl_bx rfl rfl rfl rfl (fun b1 => ?_)
  refine sl_as rfl rfl rfl ?_
  refine sl_nil ?_
  refine sw_seq ?_
  refine sl_region ?_
  refine sl_alloc rfl rfl zd_2 (fun b3 => ?_)
  refine sl_nil ?_
  refine sw_seq ?_
  refine sw_seq ?_
  refine sl_region ?_
  first
    | refine sl_load_rp1 rfl rfl rfl ag_31 rfl ?_
    | refine sl_load_blk1 rfl rfl rfl ag_31 (by repeat constructor) rfl ?_
  refine sl_mf rfl rfl (.cons rfl (.cons rfl .nil)) ?_
  refine sl_callf rfl rfl cal_60 (try_bad (.func 61 [.ptr b1 0, .ptr b3 0]) q (.val (.list (l.map byteV))) (.blk b1 [.ptr q 0] :: .blk b3 [.val (i64V (0 : Int))] :: σ)) ?_ ?_ ?_ (fun _ _ h => h.elim)
  · repeat constructor
  · repeat constructor
  rintro _ _ ⟨rfl, rfl⟩
  refine sl_nil ?_
  refine sw_false rfl (rfl) ?_
  refine sw_skip ?_
  refine sw_seq ?_
  refine sl_region ?_
  refine sl_mv rfl rfl rfl ?_
  refine sl_as rfl rfl rfl ?_
  refine sl_nil ?_
  refine sw_ret ⟨rfl, _, _, res_one rfl rfl, ?_, ⟨rfl, rfl⟩⟩
  repeat constructor

theorem pInt_ok (q : Nat) (st : Option (List UInt8)) (c : Chunk) (σ : List Chunk) (h : Rdr q st c) :
    FSpec Try.prog 20 [.ptr q 0] (c :: σ) (fun d σ' => d = .val (i64V (rdOf (decI) (0 : Int) st).1) ∧ ∃ c', Rdr q (rdOf (decI) (0 : Int) st).2 c' ∧ σ' = c' :: σ) := by
  cases st with
  | some l => obtain ⟨rfl, hl⟩ := h; exact pInt_good q l σ hl
  | none => obtain ⟨r, rfl⟩ := h; exact (pInt_bad q r σ).mono fun d σ' h => ⟨h.1, _, ⟨r, rfl⟩, h.2⟩

theorem cNum_ok (q b1 b3 : Nat) (y : D) (l : List UInt8) (σ : List Chunk) :
    FSpecP Try.prog 72 [.ptr b1 0, .ptr b3 0] (rd q l false :: .blk b1 [.ptr q 0] :: .blk b3 [y] :: σ)
      (fun d σ' => ∃ x' xs', GoodR (decN 0 l) u64V x' xs' ∧ σ' = .blk q [x', .val (.bool false)] :: .blk b1 [.ptr q 0] :: .blk b3 xs' :: σ)
      (fun ch σ' => ch = stop ∧ ∃ x' xs', BadR (decN 0 l) x' ∧ σ' = .blk q [x', .val (.bool false)] :: .blk b1 [.ptr q 0] :: .blk b3 xs' :: σ) := by
  refine spec_of_sw Try.func72 rfl ?_
  refine sl_region ?_
  first
    | refine sl_load_rp1 rfl rfl rfl ag_31 rfl ?_
    | refine sl_load_blk1 rfl rfl rfl ag_31 (by repeat constructor) rfl ?_
  refine sl_callf rfl rfl cal_73 (rnum_ok q l (.blk b1 [.ptr q 0] :: .blk b3 [y] :: σ)) ?_ ?_ ?_ (fun _ _ h => by obtain ⟨h1, rfl, r, rfl⟩ := h; exact ⟨rfl, _, Sub.refl _, rfl, _, _, ⟨h1, _, rfl⟩, rfl⟩)
  · repeat constructor
  · repeat constructor
  rintro _ _ ⟨n, r, hd, rfl, rfl⟩
  refine sl_stp rfl rfl rfl rfl sz_37 rfl rfl rfl (by repeat constructor) (Nat.le_of_ble_eq_true rfl) ?_
  refine sl_nil ?_
  refine ⟨rfl, _, _, res_none rfl, ?_, ⟨_, _, ⟨_, _, hd, rfl, rfl⟩, rfl⟩⟩
  repeat constructor

/-- Num, of a reader. -/
theorem pNum_good (q : Nat) (l : List UInt8) (σ : List Chunk) (hl : l.length ≤ 100000000) :
    FSpec Try.prog 33 [.ptr q 0] (rd q l false :: σ) (fun d σ' => d = .val (u64V (rdOf (decN 0) (0 : Nat) (some l)).1) ∧ ∃ c', Rdr q (rdOf (decN 0) (0 : Nat) (some l)).2 c' ∧ σ' = c' :: σ) := by
  refine spec_of_sw Try.func33 rfl ?_
  refine sw_seq ?_
  refine sl_region ?_
  refine sl_bx rfl rfl rfl rfl (fun b1 => ?_)
  refine sl_as rfl rfl rfl ?_
  refine sl_nil ?_
  refine sw_seq ?_
  refine sl_region ?_
  refine sl_alloc rfl rfl zd_37 (fun b3 => ?_)
  refine sl_nil ?_
  refine sw_seq ?_
  refine sw_seq ?_
  refine sl_region ?_
  first
    | refine sl_load_rp1 rfl rfl rfl ag_31 rfl ?_
    | refine sl_load_blk1 rfl rfl rfl ag_31 (by repeat constructor) rfl ?_
  refine sl_mf rfl rfl (.cons rfl (.cons rfl .nil)) ?_
  refine sl_callf rfl rfl cal_60 (try_ok 72 cal_72 q b1 b3 (.val (.list (l.map byteV))) [.val (u64V (0 : Nat))] (GoodR (decN 0 l) u64V) (BadR (decN 0 l)) σ (fun τ => cNum_ok q b1 b3 _ l τ)) ?_ ?_ ?_ (fun _ _ h => h.elim)
  · repeat constructor
  · repeat constructor
  rintro _ _ ⟨x', xs', ok, rfl, hgood, hbad, rfl⟩
  refine sl_nil ?_
  refine sw_cond rfl (fun hok => ?_) (fun hok => ?_)
  · obtain rfl : ok = true := hok
    obtain ⟨v, r, hd, rfl, rfl⟩ := hgood rfl
    refine sl_region ?_
    first
      | refine sl_load_rp1 rfl rfl rfl ag_37 rfl ?_
      | refine sl_load_blk1 rfl rfl rfl ag_37 (by repeat constructor) rfl ?_
    refine sl_as rfl rfl rfl ?_
    refine sl_nil ?_
    refine sw_seq ?_
    refine sl_region ?_
    refine sl_mv rfl rfl rfl ?_
    refine sl_as rfl rfl rfl ?_
    refine sl_nil ?_
    refine sw_ret ⟨rfl, _, _, res_one rfl rfl, ?_, by rw [rdOf_good hd]; exact ⟨rfl, _, ⟨rfl, Nat.le_trans (decN_len hd) hl⟩, rfl⟩⟩
    repeat constructor
  obtain rfl : ok = false := hok
  obtain ⟨hd, r, rfl⟩ := hbad rfl
  refine sw_skip ?_
  refine sw_seq ?_
  refine sl_region ?_
  refine sl_mv rfl rfl rfl ?_
  refine sl_as rfl rfl rfl ?_
  refine sl_nil ?_
  refine sw_ret ⟨rfl, _, _, res_one rfl rfl, ?_, by rw [rdOf_bad hd]; exact ⟨rfl, _, ⟨r, rfl⟩, rfl⟩⟩
  repeat constructor

theorem pNum_bad (q : Nat) (l : List UInt8) (σ : List Chunk) :
    FSpec Try.prog 33 [.ptr q 0] (rd q l true :: σ) (fun d σ' => d = .val (u64V (0 : Nat)) ∧ σ' = rd q l true :: σ) := by
  refine spec_of_sw Try.func33 rfl ?_
  refine sw_seq ?_
  refine sl_region ?_
  refine sl_bx rfl rfl rfl rfl (fun b1 => ?_)
  refine sl_as rfl rfl rfl ?_
  refine sl_nil ?_
  refine sw_seq ?_
  refine sl_region ?_
  refine sl_alloc rfl rfl zd_37 (fun b3 => ?_)
  refine sl_nil ?_
  refine sw_seq ?_
  refine sw_seq ?_
  refine sl_region ?_
  first
    | refine sl_load_rp1 rfl rfl rfl ag_31 rfl ?_
    | refine sl_load_blk1 rfl rfl rfl ag_31 (by repeat constructor) rfl ?_
  refine sl_mf rfl rfl (.cons rfl (.cons rfl .nil)) ?_
  refine sl_callf rfl rfl cal_60 (try_bad (.func 72 [.ptr b1 0, .ptr b3 0]) q (.val (.list (l.map byteV))) (.blk b1 [.ptr q 0] :: .blk b3 [.val (u64V (0 : Nat))] :: σ)) ?_ ?_ ?_ (fun _ _ h => h.elim)
  · repeat constructor
  · repeat constructor
  rintro _ _ ⟨rfl, rfl⟩
  refine sl_nil ?_
  refine sw_false rfl (rfl) ?_
  refine sw_skip ?_
  refine sw_seq ?_
  refine sl_region ?_
  refine sl_mv rfl rfl rfl ?_
  refine sl_as rfl rfl rfl ?_
  refine sl_nil ?_
  refine sw_ret ⟨rfl, _, _, res_one rfl rfl, ?_, ⟨rfl, rfl⟩⟩
  repeat constructor

theorem pNum_ok (q : Nat) (st : Option (List UInt8)) (c : Chunk) (σ : List Chunk) (h : Rdr q st c) :
    FSpec Try.prog 33 [.ptr q 0] (c :: σ) (fun d σ' => d = .val (u64V (rdOf (decN 0) (0 : Nat) st).1) ∧ ∃ c', Rdr q (rdOf (decN 0) (0 : Nat) st).2 c' ∧ σ' = c' :: σ) := by
  cases st with
  | some l => obtain ⟨rfl, hl⟩ := h; exact pNum_good q l σ hl
  | none => obtain ⟨r, rfl⟩ := h; exact (pNum_bad q r σ).mono fun d σ' h => ⟨h.1, _, ⟨r, rfl⟩, h.2⟩

theorem cText_ok (q b1 b3 : Nat) (y : D) (l : List UInt8) (σ : List Chunk) (hl : l.length ≤ 100000000) :
    FSpecP Try.prog 70 [.ptr b1 0, .ptr b3 0] (rd q l false :: .blk b1 [.ptr q 0] :: .blk b3 [y] :: σ)
      (fun d σ' => ∃ x' xs', GoodR (decT l) strV x' xs' ∧ σ' = .blk q [x', .val (.bool false)] :: .blk b1 [.ptr q 0] :: .blk b3 xs' :: σ)
      (fun ch σ' => ch = stop ∧ ∃ x' xs', BadR (decT l) x' ∧ σ' = .blk q [x', .val (.bool false)] :: .blk b1 [.ptr q 0] :: .blk b3 xs' :: σ) := by
  refine spec_of_sw Try.func70 rfl ?_
  refine sl_region ?_
  first
    | refine sl_load_rp1 rfl rfl rfl ag_31 rfl ?_
    | refine sl_load_blk1 rfl rfl rfl ag_31 (by repeat constructor) rfl ?_
  refine sl_callf rfl rfl cal_71 (rtext_ok q l (.blk b1 [.ptr q 0] :: .blk b3 [y] :: σ) hl) ?_ ?_ ?_ (fun _ _ h => by obtain ⟨h1, rfl, r, rfl⟩ := h; exact ⟨rfl, _, Sub.refl _, rfl, _, _, ⟨h1, _, rfl⟩, rfl⟩)
  · repeat constructor
  · repeat constructor
  rintro _ _ ⟨n, r, hd, rfl, rfl⟩
  refine sl_stp rfl rfl rfl rfl sz_9 rfl rfl rfl (by repeat constructor) (Nat.le_of_ble_eq_true rfl) ?_
  refine sl_nil ?_
  refine ⟨rfl, _, _, res_none rfl, ?_, ⟨_, _, ⟨_, _, hd, rfl, rfl⟩, rfl⟩⟩
  repeat constructor

/-- Text, of a reader. -/
theorem pText_good (q : Nat) (l : List UInt8) (σ : List Chunk) (hl : l.length ≤ 100000000) :
    FSpec Try.prog 32 [.ptr q 0] (rd q l false :: σ) (fun d σ' => d = .val (strV (rdOf (decT) ([] : List UInt8) (some l)).1) ∧ ∃ c', Rdr q (rdOf (decT) ([] : List UInt8) (some l)).2 c' ∧ σ' = c' :: σ) := by
  refine spec_of_sw Try.func32 rfl ?_
  refine sw_seq ?_
  refine sl_region ?_
  refine sl_bx rfl rfl rfl rfl (fun b1 => ?_)
  refine sl_as rfl rfl rfl ?_
  refine sl_nil ?_
  refine sw_seq ?_
  refine sl_region ?_
  refine sl_alloc rfl rfl zd_9 (fun b3 => ?_)
  refine sl_nil ?_
  refine sw_seq ?_
  refine sw_seq ?_
  refine sl_region ?_
  first
    | refine sl_load_rp1 rfl rfl rfl ag_31 rfl ?_
    | refine sl_load_blk1 rfl rfl rfl ag_31 (by repeat constructor) rfl ?_
  refine sl_mf rfl rfl (.cons rfl (.cons rfl .nil)) ?_
  refine sl_callf rfl rfl cal_60 (try_ok 70 cal_70 q b1 b3 (.val (.list (l.map byteV))) [.val (strV ([] : List UInt8))] (GoodR (decT l) strV) (BadR (decT l)) σ (fun τ => cText_ok q b1 b3 _ l τ hl)) ?_ ?_ ?_ (fun _ _ h => h.elim)
  · repeat constructor
  · repeat constructor
  rintro _ _ ⟨x', xs', ok, rfl, hgood, hbad, rfl⟩
  refine sl_nil ?_
  refine sw_cond rfl (fun hok => ?_) (fun hok => ?_)
  · obtain rfl : ok = true := hok
    obtain ⟨v, r, hd, rfl, rfl⟩ := hgood rfl
    refine sl_region ?_
    first
      | refine sl_load_rp1 rfl rfl rfl ag_9 rfl ?_
      | refine sl_load_blk1 rfl rfl rfl ag_9 (by repeat constructor) rfl ?_
    refine sl_as rfl rfl rfl ?_
    refine sl_nil ?_
    refine sw_seq ?_
    refine sl_region ?_
    refine sl_mv rfl rfl rfl ?_
    refine sl_as rfl rfl rfl ?_
    refine sl_nil ?_
    refine sw_ret ⟨rfl, _, _, res_one rfl rfl, ?_, by rw [rdOf_good hd]; exact ⟨rfl, _, ⟨rfl, Nat.le_trans (decT_len hd) hl⟩, rfl⟩⟩
    repeat constructor
  obtain rfl : ok = false := hok
  obtain ⟨hd, r, rfl⟩ := hbad rfl
  refine sw_skip ?_
  refine sw_seq ?_
  refine sl_region ?_
  refine sl_mv rfl rfl rfl ?_
  refine sl_as rfl rfl rfl ?_
  refine sl_nil ?_
  refine sw_ret ⟨rfl, _, _, res_one rfl rfl, ?_, by rw [rdOf_bad hd]; exact ⟨rfl, _, ⟨r, rfl⟩, rfl⟩⟩
  repeat constructor

theorem pText_bad (q : Nat) (l : List UInt8) (σ : List Chunk) :
    FSpec Try.prog 32 [.ptr q 0] (rd q l true :: σ) (fun d σ' => d = .val (strV ([] : List UInt8)) ∧ σ' = rd q l true :: σ) := by
  refine spec_of_sw Try.func32 rfl ?_
  refine sw_seq ?_
  refine sl_region ?_
  refine sl_bx rfl rfl rfl rfl (fun b1 => ?_)
  refine sl_as rfl rfl rfl ?_
  refine sl_nil ?_
  refine sw_seq ?_
  refine sl_region ?_
  refine sl_alloc rfl rfl zd_9 (fun b3 => ?_)
  refine sl_nil ?_
  refine sw_seq ?_
  refine sw_seq ?_
  refine sl_region ?_
  first
    | refine sl_load_rp1 rfl rfl rfl ag_31 rfl ?_
    | refine sl_load_blk1 rfl rfl rfl ag_31 (by repeat constructor) rfl ?_
  refine sl_mf rfl rfl (.cons rfl (.cons rfl .nil)) ?_
  refine sl_callf rfl rfl cal_60 (try_bad (.func 70 [.ptr b1 0, .ptr b3 0]) q (.val (.list (l.map byteV))) (.blk b1 [.ptr q 0] :: .blk b3 [.val (strV ([] : List UInt8))] :: σ)) ?_ ?_ ?_ (fun _ _ h => h.elim)
  · repeat constructor
  · repeat constructor
  rintro _ _ ⟨rfl, rfl⟩
  refine sl_nil ?_
  refine sw_false rfl (rfl) ?_
  refine sw_skip ?_
  refine sw_seq ?_
  refine sl_region ?_
  refine sl_mv rfl rfl rfl ?_
  refine sl_as rfl rfl rfl ?_
  refine sl_nil ?_
  refine sw_ret ⟨rfl, _, _, res_one rfl rfl, ?_, ⟨rfl, rfl⟩⟩
  repeat constructor

theorem pText_ok (q : Nat) (st : Option (List UInt8)) (c : Chunk) (σ : List Chunk) (h : Rdr q st c) :
    FSpec Try.prog 32 [.ptr q 0] (c :: σ) (fun d σ' => d = .val (strV (rdOf (decT) ([] : List UInt8) st).1) ∧ ∃ c', Rdr q (rdOf (decT) ([] : List UInt8) st).2 c' ∧ σ' = c' :: σ) := by
  cases st with
  | some l => obtain ⟨rfl, hl⟩ := h; exact pText_good q l σ hl
  | none => obtain ⟨r, rfl⟩ := h; exact (pText_bad q r σ).mono fun d σ' h => ⟨h.1, _, ⟨r, rfl⟩, h.2⟩

theorem cBool_ok (q b1 b3 : Nat) (y : D) (l : List UInt8) (σ : List Chunk) :
    FSpecP Try.prog 74 [.ptr b1 0, .ptr b3 0] (rd q l false :: .blk b1 [.ptr q 0] :: .blk b3 [y] :: σ)
      (fun d σ' => ∃ x' xs', GoodR (decB l) boolV x' xs' ∧ σ' = .blk q [x', .val (.bool false)] :: .blk b1 [.ptr q 0] :: .blk b3 xs' :: σ)
      (fun ch σ' => ch = stop ∧ ∃ x' xs', BadR (decB l) x' ∧ σ' = .blk q [x', .val (.bool false)] :: .blk b1 [.ptr q 0] :: .blk b3 xs' :: σ) := by
  refine spec_of_sw Try.func74 rfl ?_
  refine sl_region ?_
  first
    | refine sl_load_rp1 rfl rfl rfl ag_31 rfl ?_
    | refine sl_load_blk1 rfl rfl rfl ag_31 (by repeat constructor) rfl ?_
  refine sl_callf rfl rfl cal_75 (rbool_ok q l (.blk b1 [.ptr q 0] :: .blk b3 [y] :: σ)) ?_ ?_ ?_ (fun _ _ h => by obtain ⟨h1, rfl, r, rfl⟩ := h; exact ⟨rfl, _, Sub.refl _, rfl, _, _, ⟨h1, _, rfl⟩, rfl⟩)
  · repeat constructor
  · repeat constructor
  rintro _ _ ⟨n, r, hd, rfl, rfl⟩
  refine sl_stp rfl rfl rfl rfl sz_4 rfl rfl rfl (by repeat constructor) (Nat.le_of_ble_eq_true rfl) ?_
  refine sl_nil ?_
  refine ⟨rfl, _, _, res_none rfl, ?_, ⟨_, _, ⟨_, _, hd, rfl, rfl⟩, rfl⟩⟩
  repeat constructor

/-- Bool, of a reader. -/
theorem pBool_good (q : Nat) (l : List UInt8) (σ : List Chunk) (hl : l.length ≤ 100000000) :
    FSpec Try.prog 34 [.ptr q 0] (rd q l false :: σ) (fun d σ' => d = .val (boolV (rdOf (decB) false (some l)).1) ∧ ∃ c', Rdr q (rdOf (decB) false (some l)).2 c' ∧ σ' = c' :: σ) := by
  refine spec_of_sw Try.func34 rfl ?_
  refine sw_seq ?_
  refine sl_region ?_
  refine sl_bx rfl rfl rfl rfl (fun b1 => ?_)
  refine sl_as rfl rfl rfl ?_
  refine sl_nil ?_
  refine sw_seq ?_
  refine sl_region ?_
  refine sl_alloc rfl rfl zd_4 (fun b3 => ?_)
  refine sl_nil ?_
  refine sw_seq ?_
  refine sw_seq ?_
  refine sl_region ?_
  first
    | refine sl_load_rp1 rfl rfl rfl ag_31 rfl ?_
    | refine sl_load_blk1 rfl rfl rfl ag_31 (by repeat constructor) rfl ?_
  refine sl_mf rfl rfl (.cons rfl (.cons rfl .nil)) ?_
  refine sl_callf rfl rfl cal_60 (try_ok 74 cal_74 q b1 b3 (.val (.list (l.map byteV))) [.val (boolV false)] (GoodR (decB l) boolV) (BadR (decB l)) σ (fun τ => cBool_ok q b1 b3 _ l τ)) ?_ ?_ ?_ (fun _ _ h => h.elim)
  · repeat constructor
  · repeat constructor
  rintro _ _ ⟨x', xs', ok, rfl, hgood, hbad, rfl⟩
  refine sl_nil ?_
  refine sw_cond rfl (fun hok => ?_) (fun hok => ?_)
  · obtain rfl : ok = true := hok
    obtain ⟨v, r, hd, rfl, rfl⟩ := hgood rfl
    refine sl_region ?_
    first
      | refine sl_load_rp1 rfl rfl rfl ag_4 rfl ?_
      | refine sl_load_blk1 rfl rfl rfl ag_4 (by repeat constructor) rfl ?_
    refine sl_as rfl rfl rfl ?_
    refine sl_nil ?_
    refine sw_seq ?_
    refine sl_region ?_
    refine sl_mv rfl rfl rfl ?_
    refine sl_as rfl rfl rfl ?_
    refine sl_nil ?_
    refine sw_ret ⟨rfl, _, _, res_one rfl rfl, ?_, by rw [rdOf_good hd]; exact ⟨rfl, _, ⟨rfl, Nat.le_trans (decB_len hd) hl⟩, rfl⟩⟩
    repeat constructor
  obtain rfl : ok = false := hok
  obtain ⟨hd, r, rfl⟩ := hbad rfl
  refine sw_skip ?_
  refine sw_seq ?_
  refine sl_region ?_
  refine sl_mv rfl rfl rfl ?_
  refine sl_as rfl rfl rfl ?_
  refine sl_nil ?_
  refine sw_ret ⟨rfl, _, _, res_one rfl rfl, ?_, by rw [rdOf_bad hd]; exact ⟨rfl, _, ⟨r, rfl⟩, rfl⟩⟩
  repeat constructor

theorem pBool_bad (q : Nat) (l : List UInt8) (σ : List Chunk) :
    FSpec Try.prog 34 [.ptr q 0] (rd q l true :: σ) (fun d σ' => d = .val (boolV false) ∧ σ' = rd q l true :: σ) := by
  refine spec_of_sw Try.func34 rfl ?_
  refine sw_seq ?_
  refine sl_region ?_
  refine sl_bx rfl rfl rfl rfl (fun b1 => ?_)
  refine sl_as rfl rfl rfl ?_
  refine sl_nil ?_
  refine sw_seq ?_
  refine sl_region ?_
  refine sl_alloc rfl rfl zd_4 (fun b3 => ?_)
  refine sl_nil ?_
  refine sw_seq ?_
  refine sw_seq ?_
  refine sl_region ?_
  first
    | refine sl_load_rp1 rfl rfl rfl ag_31 rfl ?_
    | refine sl_load_blk1 rfl rfl rfl ag_31 (by repeat constructor) rfl ?_
  refine sl_mf rfl rfl (.cons rfl (.cons rfl .nil)) ?_
  refine sl_callf rfl rfl cal_60 (try_bad (.func 74 [.ptr b1 0, .ptr b3 0]) q (.val (.list (l.map byteV))) (.blk b1 [.ptr q 0] :: .blk b3 [.val (boolV false)] :: σ)) ?_ ?_ ?_ (fun _ _ h => h.elim)
  · repeat constructor
  · repeat constructor
  rintro _ _ ⟨rfl, rfl⟩
  refine sl_nil ?_
  refine sw_false rfl (rfl) ?_
  refine sw_skip ?_
  refine sw_seq ?_
  refine sl_region ?_
  refine sl_mv rfl rfl rfl ?_
  refine sl_as rfl rfl rfl ?_
  refine sl_nil ?_
  refine sw_ret ⟨rfl, _, _, res_one rfl rfl, ?_, ⟨rfl, rfl⟩⟩
  repeat constructor

theorem pBool_ok (q : Nat) (st : Option (List UInt8)) (c : Chunk) (σ : List Chunk) (h : Rdr q st c) :
    FSpec Try.prog 34 [.ptr q 0] (c :: σ) (fun d σ' => d = .val (boolV (rdOf (decB) false st).1) ∧ ∃ c', Rdr q (rdOf (decB) false st).2 c' ∧ σ' = c' :: σ) := by
  cases st with
  | some l => obtain ⟨rfl, hl⟩ := h; exact pBool_good q l σ hl
  | none => obtain ⟨r, rfl⟩ := h; exact (pBool_bad q r σ).mono fun d σ' h => ⟨h.1, _, ⟨r, rfl⟩, h.2⟩

/-- Done tells whether all was read. -/
theorem done_good (q : Nat) (l : List UInt8) (σ : List Chunk) : FSpec Try.prog 21 [.ptr q 0] (rd q l false :: σ) (fun d σ' => d = .val (.int .i64 (doneV (some l))) ∧ σ' = rd q l false :: σ) := by
  refine spec_of_sw Try.func21 rfl ?_
  refine sw_seq ?_
  refine sl_region ?_
  refine sl_as rfl rfl rfl ?_
  refine sl_nil ?_
  refine sw_seq ?_
  refine sw_seq ?_
  refine sl_region ?_
  refine sl_mv rfl rfl rfl ?_
  refine sl_nc rfl rfl rfl rfl ?_
  first
    | refine sl_fieldAddr_ptr rfl rfl rfl fo_113_1 ?_
    | refine sl_fieldAddr_rp rfl rfl rfl fo_113_1 ?_
    | refine sl_fieldAddr_ref rfl rfl rfl fo_113_1 ?_
  first
    | refine sl_load_rp1 rfl rfl rfl ag_4 rfl ?_
    | refine sl_load_blk1 rfl rfl rfl ag_4 (by repeat constructor) rfl ?_
  refine sl_mv rfl rfl rfl ?_
  refine sl_guard_y rfl rfl rfl (rfl) ?_
  refine sl_mv rfl rfl rfl ?_
  refine sl_guard_y rfl rfl rfl (rfl) ?_
  refine sl_nc rfl rfl rfl rfl ?_
  refine sl_guard_y rfl rfl rfl (rfl) ?_
  first
    | refine sl_fieldAddr_ptr rfl rfl rfl fo_113_0 ?_
    | refine sl_fieldAddr_rp rfl rfl rfl fo_113_0 ?_
    | refine sl_fieldAddr_ref rfl rfl rfl fo_113_0 ?_
  refine sl_guard_y rfl rfl rfl (rfl) ?_
  first
    | refine sl_load_rp1 rfl rfl rfl ag_26 rfl ?_
    | refine sl_load_blk1 rfl rfl rfl ag_26 (by repeat constructor) rfl ?_
  refine sl_guard_y rfl rfl rfl (rfl) ?_
  first
    | refine sl_len rfl rfl rfl ⟨_, u_26⟩ ?_
    | refine sl_len_sl rfl rfl rfl ⟨_, u_26⟩ ?_
    | refine sl_len_w _ rfl rfl rfl ⟨_, u_26⟩ ?_
  refine sl_guard_y rfl rfl rfl (rfl) ?_
  refine sl_bin rfl rfl rfl rfl rfl ?_
  refine sl_pk_f rfl rfl rfl (rfl) rfl ?_
  refine sl_nil ?_
  refine sw_cond rfl (fun h => ?_) (fun h => ?_)
  · obtain ⟨x, m, rfl⟩ := len_pos_true h
    refine sw_seq ?_
    refine sl_region ?_
    refine sl_as rfl rfl rfl ?_
    refine sl_nil ?_
    refine sw_ret ⟨rfl, _, _, res_one rfl rfl, ?_, ⟨rfl, rfl⟩⟩
    repeat constructor
  have hm := len_pos_false h
  subst hm
  refine sw_skip ?_
  refine sw_seq ?_
  refine sl_region ?_
  refine sl_as rfl rfl rfl ?_
  refine sl_nil ?_
  refine sw_ret ⟨rfl, _, _, res_one rfl rfl, ?_, ⟨rfl, rfl⟩⟩
  repeat constructor

theorem done_bad (q : Nat) (l : List UInt8) (σ : List Chunk) : FSpec Try.prog 21 [.ptr q 0] (rd q l true :: σ) (fun d σ' => d = .val (.int .i64 20) ∧ σ' = rd q l true :: σ) := by
  refine spec_of_sw Try.func21 rfl ?_
  refine sw_seq ?_
  refine sl_region ?_
  refine sl_as rfl rfl rfl ?_
  refine sl_nil ?_
  refine sw_seq ?_
  refine sw_seq ?_
  refine sl_region ?_
  refine sl_mv rfl rfl rfl ?_
  refine sl_nc rfl rfl rfl rfl ?_
  first
    | refine sl_fieldAddr_ptr rfl rfl rfl fo_113_1 ?_
    | refine sl_fieldAddr_rp rfl rfl rfl fo_113_1 ?_
    | refine sl_fieldAddr_ref rfl rfl rfl fo_113_1 ?_
  first
    | refine sl_load_rp1 rfl rfl rfl ag_4 rfl ?_
    | refine sl_load_blk1 rfl rfl rfl ag_4 (by repeat constructor) rfl ?_
  refine sl_mv rfl rfl rfl ?_
  refine sl_guard_n rfl rfl rfl (rfl) ?_
  refine sl_guard_n rfl rfl rfl (rfl) ?_
  refine sl_guard_n rfl rfl rfl (rfl) ?_
  refine sl_guard_n rfl rfl rfl (rfl) ?_
  refine sl_guard_n rfl rfl rfl (rfl) ?_
  refine sl_guard_n rfl rfl rfl (rfl) ?_
  refine sl_pk_t rfl rfl rfl (rfl) rfl ?_
  refine sl_nil ?_
  refine sw_true rfl (rfl) ?_
  refine sw_seq ?_
  refine sl_region ?_
  refine sl_as rfl rfl rfl ?_
  refine sl_nil ?_
  refine sw_ret ⟨rfl, _, _, res_one rfl rfl, ?_, ⟨rfl, rfl⟩⟩
  repeat constructor

theorem done_ok (q : Nat) (st : Option (List UInt8)) (c : Chunk) (σ : List Chunk) (h : Rdr q st c) :
    FSpec Try.prog 21 [.ptr q 0] (c :: σ) (fun d σ' => d = .val (.int .i64 (doneV st)) ∧ σ' = c :: σ) := by
  cases st with
  | some l => obtain ⟨rfl, hl⟩ := h; exact done_good q l σ
  | none => obtain ⟨r, rfl⟩ := h; exact done_bad q r σ

end Go.Proofs.Ytioechdfghglhaa

/- Walks: printed by a program of this session out of its script CodeE. -/
namespace Go.Proofs.Ytioechdfghglhaa
set_option linter.unusedVariables false
set_option linter.unusedSimpArgs false
set_option maxRecDepth 4000
set_option maxHeartbeats 4000000
open Go Go.RowKit SL


theorem ints_known : ([] : List UInt8) ++ [(-1 : Int), 1].flatMap encInt = [1, 2] := by
  simp [encInt, zig, encNum_lt]

/-- What is known of the code. -/
theorem known2_ok (σ : List Chunk) : FSpec Try.prog 15 [] σ (fun d σ' => d = .val (.bool true) ∧ σ' = σ) := by
  refine spec_of_sw Try.func15 rfl ?_
  refine sw_seq ?_
  refine sl_region ?_
  refine sl_as rfl rfl rfl ?_
  refine sl_nil ?_
  refine sw_seq ?_
  refine sl_region ?_
  refine sl_callf rfl rfl cal_16 (newWriter_ok σ) ?_ ?_ ?_ (fun _ _ h => h.elim)
  · repeat constructor
  · repeat constructor
  rintro _ _ ⟨p, v, rfl, rfl⟩
  refine sl_as rfl rfl rfl ?_
  refine sl_nil ?_
  refine sw_seq ?_
  refine sw_seq ?_
  refine sl_region ?_
  refine sl_mv rfl rfl rfl ?_
  refine sl_eq_nil rfl rfl rfl u_23 ?_
  refine sl_nil ?_
  refine sw_false rfl (rfl) ?_
  refine sw_skip ?_
  refine sw_seq ?_
  refine sl_region ?_
  refine sl_mv rfl rfl rfl ?_
  refine sl_nc rfl rfl rfl rfl ?_
  first
    | refine sl_fieldAddr_ptr rfl rfl rfl fo_30_0 ?_
    | refine sl_fieldAddr_rp rfl rfl rfl fo_30_0 ?_
    | refine sl_fieldAddr_ref rfl rfl rfl fo_30_0 ?_
  refine sl_bs1 rfl rfl (.cons rfl (.cons rfl .nil)) u_52 sz_2 zs_2 (by decide) rfl rfl rfl rfl ?_
  refine sl_callf rfl rfl cal_17 (int_ok p v [] [-1, 1] σ (by intro n hn; simp at hn; unfold isI64; omega) (by decide)) ?_ ?_ ?_ (fun _ _ h => h.elim)
  · repeat constructor
  · repeat constructor
  rintro _ _ ⟨rfl, v2, rfl⟩
  rw [ints_known]
  refine sl_nil ?_
  refine sw_seq ?_
  refine sl_region ?_
  refine sl_mv rfl rfl rfl ?_
  refine sl_nc rfl rfl rfl rfl ?_
  first
    | refine sl_fieldAddr_ptr rfl rfl rfl fo_30_0 ?_
    | refine sl_fieldAddr_rp rfl rfl rfl fo_30_0 ?_
    | refine sl_fieldAddr_ref rfl rfl rfl fo_30_0 ?_
  refine sl_callf rfl rfl cal_19 (bytes_ok p v2 [1, 2] (.spare v2 1 :: σ) (by decide)) ?_ ?_ ?_ (fun _ _ h => h.elim)
  · repeat constructor
  · repeat constructor
  rintro _ _ ⟨rfl, rfl⟩
  refine sl_callf rfl rfl cal_18 (newReader_ok [1, 2] (.blk p [.own v2 (([1, 2] : List UInt8).map byteV)] :: .spare v2 1 :: σ) (by decide)) ?_ ?_ ?_ (fun _ _ h => h.elim)
  · repeat constructor
  · repeat constructor
  rintro _ _ ⟨q, rfl, rfl⟩
  refine sl_as rfl rfl rfl ?_
  refine sl_nil ?_
  refine sw_seq ?_
  refine sl_region ?_
  refine sl_mv rfl rfl rfl ?_
  refine sl_nc rfl rfl rfl rfl ?_
  first
    | refine sl_fieldAddr_ptr rfl rfl rfl fo_30_0 ?_
    | refine sl_fieldAddr_rp rfl rfl rfl fo_30_0 ?_
    | refine sl_fieldAddr_ref rfl rfl rfl fo_30_0 ?_
  refine sl_callf rfl rfl cal_19 (bytes_ok p v2 [1, 2] (rd q [1, 2] false :: .spare v2 1 :: σ) (by decide)) ?_ ?_ ?_ (fun _ _ h => h.elim)
  · repeat constructor
  · repeat constructor
  rintro _ _ ⟨rfl, rfl⟩
  refine sl_bytes_str rfl rfl rfl u_26 u_5 u_9 ?_
  refine sl_str rfl rfl rfl rfl rfl ?_
  refine sl_mv rfl rfl rfl ?_
  refine sl_guard_y rfl rfl rfl (rfl) ?_
  refine sl_mv rfl rfl rfl ?_
  refine sl_guard_y rfl rfl rfl (rfl) ?_
  refine sl_ne_nil rfl rfl rfl u_31 ?_
  refine sl_pk_t rfl rfl rfl (rfl) rfl ?_
  refine sl_mv rfl rfl rfl ?_
  refine sl_guard_y rfl rfl rfl (rfl) ?_
  refine sl_mv rfl rfl rfl ?_
  refine sl_guard_y rfl rfl rfl (rfl) ?_
  refine sl_callf rfl rfl cal_20 (pInt_ok q (some [1, 2]) _ σ ⟨rfl, by decide⟩) ?_ ?_ ?_ (fun _ _ h => h.elim)
  · repeat constructor
  · repeat constructor
  rintro _ _ ⟨rfl, c2, h2, rfl⟩
  refine sl_guard_y rfl rfl rfl (rfl) ?_
  refine sl_bin rfl rfl rfl rfl rfl ?_
  refine sl_pk_t rfl rfl rfl (rfl) rfl ?_
  refine sl_mv rfl rfl rfl ?_
  refine sl_guard_y rfl rfl rfl (rfl) ?_
  refine sl_mv rfl rfl rfl ?_
  refine sl_guard_y rfl rfl rfl (rfl) ?_
  refine sl_callf rfl rfl cal_20 (pInt_ok q (some [2]) c2 σ h2) ?_ ?_ ?_ (fun _ _ h => h.elim)
  · repeat constructor
  · repeat constructor
  rintro _ _ ⟨rfl, c3, h3, rfl⟩
  refine sl_guard_y rfl rfl rfl (rfl) ?_
  refine sl_bin rfl rfl rfl rfl rfl ?_
  refine sl_pk_t rfl rfl rfl (rfl) rfl ?_
  refine sl_mv rfl rfl rfl ?_
  refine sl_guard_y rfl rfl rfl (rfl) ?_
  refine sl_mv rfl rfl rfl ?_
  refine sl_guard_y rfl rfl rfl (rfl) ?_
  refine sl_callf rfl rfl cal_21 (done_ok q (some []) c3 σ h3) ?_ ?_ ?_ (fun _ _ h => h.elim)
  · repeat constructor
  · repeat constructor
  rintro _ _ ⟨rfl, rfl⟩
  refine sl_guard_y rfl rfl rfl (rfl) ?_
  refine sl_bin rfl rfl rfl rfl rfl ?_
  refine sl_pk_t rfl rfl rfl (rfl) rfl ?_
  refine sl_mv rfl rfl rfl ?_
  refine sl_guard_y rfl rfl rfl (rfl) ?_
  refine sl_mv rfl rfl rfl ?_
  refine sl_guard_y rfl rfl rfl (rfl) ?_
  refine sl_callf rfl rfl cal_32 (pText_ok q (some []) c3 σ h3) ?_ ?_ ?_ (fun _ _ h => h.elim)
  · repeat constructor
  · repeat constructor
  rintro _ _ ⟨rfl, c4, h4, rfl⟩
  refine sl_guard_y rfl rfl rfl (rfl) ?_
  refine sl_str rfl rfl rfl rfl rfl ?_
  refine sl_pk_t rfl rfl rfl (rfl) rfl ?_
  refine sl_mv rfl rfl rfl ?_
  refine sl_guard_y rfl rfl rfl (rfl) ?_
  refine sl_mv rfl rfl rfl ?_
  refine sl_guard_y rfl rfl rfl (rfl) ?_
  refine sl_callf rfl rfl cal_21 (done_ok q none c4 σ h4) ?_ ?_ ?_ (fun _ _ h => h.elim)
  · repeat constructor
  · repeat constructor
  rintro _ _ ⟨rfl, rfl⟩
  refine sl_guard_y rfl rfl rfl (rfl) ?_
  refine sl_bin rfl rfl rfl rfl rfl ?_
  refine sl_pk_t rfl rfl rfl (rfl) rfl ?_
  refine sl_as rfl rfl rfl ?_
  refine sl_nil ?_
  refine sw_ret ⟨rfl, _, _, res_one rfl rfl, ?_, ⟨rfl, rfl⟩⟩
  repeat constructor

theorem zig_neg {n : Int} (h : isI64 n) (hn : n < 0) : D.val (.int .u64 (IntKind.u64.wrap (IntKind.u64.wrap (IntKind.u64.wrap (IntKind.i64.wrap (0 - (n + 1))) * 2) + 1))) = .val (u64V (zig n)) := by
  unfold isI64 at h
  rw [wrap_i64 (n := 0 - (n + 1)) (by omega) (by omega), wrap_u64 (n := 0 - (n + 1)) (by omega) (by omega), wrap_u64 (n := (0 - (n + 1)) * 2) (by omega) (by omega), wrap_u64 (by omega) (by omega)]
  unfold u64V zig
  rw [if_pos hn]
  congr 2; omega

theorem zig_pos {n : Int} (h : isI64 n) (hn : ¬ n < 0) : D.val (.int .u64 (IntKind.u64.wrap (IntKind.u64.wrap n * 2))) = .val (u64V (zig n)) := by
  unfold isI64 at h
  rw [wrap_u64 (n := n) (by omega) (by omega), wrap_u64 (by omega) (by omega)]
  unfold u64V zig
  rw [if_neg hn]
  congr 2; omega

theorem zig_ok (n : Int) (σ : List Chunk) (h : isI64 n) : FSpec Try.prog 22 [.val (i64V n)] σ (fun d σ' => d = .val (u64V (zig n)) ∧ σ' = σ) := by
  unfold isI64 at h
  refine spec_of_sw Try.func22 rfl ?_
  refine sw_seq ?_
  refine sl_region ?_
  refine sl_as rfl rfl rfl ?_
  refine sl_nil ?_
  refine sw_seq ?_
  refine sw_seq ?_
  refine sl_region ?_
  refine sl_mv rfl rfl rfl ?_
  refine sl_bin rfl rfl rfl rfl rfl ?_
  refine sl_nil ?_
  refine sw_cond rfl (fun hn => ?_) (fun hn => ?_)
  · have hn : n < 0 := of_decide_eq_true hn
    refine sw_seq ?_
    refine sl_region ?_
    refine sl_mv rfl rfl rfl ?_
    first
      | refine sl_inc rfl rfl rfl rfl (by omega) ?_
      | refine sl_add rfl rfl rfl rfl (by constructor <;> omega) ?_
      | refine sl_bin rfl rfl rfl rfl rfl ?_
    refine sl_neg rfl rfl rfl ?_
    refine sl_conv_int rfl rfl rfl is_2 u_37 ?_
    refine sl_bin rfl rfl rfl rfl rfl ?_
    refine sl_bin rfl rfl rfl rfl rfl ?_
    refine sl_set 10 (.val (u64V (zig n))) (zig_neg h hn) ?_
    refine sl_as rfl rfl rfl ?_
    refine sl_nil ?_
    refine sw_ret ⟨rfl, _, _, res_one rfl rfl, ?_, ⟨rfl, rfl⟩⟩
    repeat constructor
  have hn : ¬ n < 0 := of_decide_eq_false hn
  refine sw_skip ?_
  refine sw_seq ?_
  refine sl_region ?_
  refine sl_mv rfl rfl rfl ?_
  refine sl_conv_int rfl rfl rfl is_2 u_37 ?_
  refine sl_bin rfl rfl rfl rfl rfl ?_
  refine sl_set 13 (.val (u64V (zig n))) (zig_pos h hn) ?_
  refine sl_as rfl rfl rfl ?_
  refine sl_nil ?_
  refine sw_ret ⟨rfl, _, _, res_one rfl rfl, ?_, ⟨rfl, rfl⟩⟩
  repeat constructor

theorem encNum_inj {a b : Nat} (ha : a < 18446744073709551616) (hb : b < 18446744073709551616) (h : encNum a = encNum b) : a = b := by
  have h1 := decN_enc ha []
  have h2 := decN_enc hb []
  rw [h, h2] at h1
  simpa using h1.symm

theorem encInt_inj {a b : Int} (ha : isI64 a) (hb : isI64 b) (h : encInt a = encInt b) : a = b := zig_inj (encNum_inj (zig_lt ha) (zig_lt hb) h)

theorem encNum_mono : ∀ (a b : Nat), a ≤ b → (encNum a).length ≤ (encNum b).length := by
  intro a
  induction a using Nat.strongRecOn with
  | _ a ih =>
    intro b hab
    by_cases ha : a < 128
    · rw [encNum_lt ha]; exact encNum_pos b
    · rw [encNum_ge (by omega), encNum_ge (n := b) (by omega)]
      have := ih (a / 128) (by omega) (b / 128) (by omega)
      simp only [List.length_cons]; omega

theorem ints_same {a b : Int} (ha : isI64 a) (hb : isI64 b) : (([] ++ [a].flatMap encInt == [] ++ [b].flatMap encInt) == (a == b)) = true := by
  have : [a].flatMap encInt = encInt a := by simp
  have h2 : [b].flatMap encInt = encInt b := by simp
  rw [this, h2, List.nil_append, List.nil_append]
  by_cases h : a = b
  · subst h; simp
  · have : ¬ encInt a = encInt b := fun e => h (encInt_inj ha hb e)
    rw [beq_eq_false_iff_ne.mpr this, beq_eq_false_iff_ne.mpr h]; rfl

theorem codeInts_1 {a b : Int} (ha : isI64 a) (hb : isI64 b) : ((encInt a == encInt b) == (a == b)) = true := by
  have := ints_same ha hb
  simpa using this

theorem dec_int {a : Int} (h : isI64 a) : rdOf decI (0 : Int) (some (encInt a)) = (a, some []) := by
  have := decI_enc h []
  rw [List.append_nil] at this
  exact rdOf_good this

theorem one_int (a : Int) : ([] : List UInt8) ++ [a].flatMap encInt = encInt a := by simp

theorem ints_short {a b : Int} (h : decide ((zig a : Int) > (zig b : Int)) = false) : decide ((((encInt a).map byteV).length : Int) ≤ (((encInt b).map byteV).length : Int)) = true := by
  have h := of_decide_eq_false h
  refine decide_eq_true ?_
  have := encNum_mono (zig a) (zig b) (by omega)
  simp only [List.length_map, encInt]; omega

/-- CodeInts. -/
theorem codeInts_ok (a b : Int) (ha : isI64 a) (hb : isI64 b) : FSpec Try.prog 3 [.val (i64V a), .val (i64V b)] [] (fun d σ' => d = .val (.bool true) ∧ σ' = []) := by
  have hla : (encInt a).length ≤ 10 := encNum_len (zig_lt ha)
  have hlb : (encInt b).length ≤ 10 := encNum_len (zig_lt hb)
  refine spec_of_sw Try.func3 rfl ?_
  refine sw_seq ?_
  refine sl_region ?_
  refine sl_as rfl rfl rfl ?_
  refine sl_nil ?_
  refine sw_seq ?_
  refine sw_seq ?_
  refine sl_region ?_
  refine sl_callf rfl rfl cal_15 (known2_ok []) ?_ ?_ ?_ (fun _ _ h => h.elim)
  · repeat constructor
  · repeat constructor
  rintro _ _ ⟨rfl, rfl⟩
  refine sl_not rfl rfl rfl ?_
  refine sl_nil ?_
  refine sw_false rfl (rfl) ?_
  refine sw_skip ?_
  refine sw_seq ?_
  refine sl_region ?_
  refine sl_callf rfl rfl cal_16 (newWriter_ok []) ?_ ?_ ?_ (fun _ _ h => h.elim)
  · repeat constructor
  · repeat constructor
  rintro _ _ ⟨p1, v1, rfl, rfl⟩
  refine sl_callf rfl rfl cal_16 (newWriter_ok (.blk p1 [.own v1 (([] : List UInt8).map byteV)] :: .spare v1 1 :: [])) ?_ ?_ ?_ (fun _ _ h => h.elim)
  · repeat constructor
  · repeat constructor
  rintro _ _ ⟨p2, v2, rfl, rfl⟩
  refine sl_as rfl rfl rfl ?_
  refine sl_as rfl rfl rfl ?_
  refine sl_nil ?_
  refine sw_seq ?_
  refine sl_region ?_
  refine sl_mv rfl rfl rfl ?_
  refine sl_nc rfl rfl rfl rfl ?_
  first
    | refine sl_fieldAddr_ptr rfl rfl rfl fo_30_0 ?_
    | refine sl_fieldAddr_rp rfl rfl rfl fo_30_0 ?_
    | refine sl_fieldAddr_ref rfl rfl rfl fo_30_0 ?_
  refine sl_mv rfl rfl rfl ?_
  refine sl_bs1 rfl rfl (.cons rfl .nil) u_52 sz_2 zs_2 (by decide) rfl rfl rfl rfl ?_
  refine sl_callf rfl rfl cal_17 (int_ok p1 v1 [] [a] (.blk p2 [.own v2 (([] : List UInt8).map byteV)] :: .spare v2 1 :: []) (by intro n hn; simp at hn; subst hn; exact ha) (by simp)) ?_ ?_ ?_ (fun _ _ h => h.elim)
  · repeat constructor
  · repeat constructor
  rintro _ _ ⟨rfl, v3, rfl⟩
  rw [one_int]
  refine sl_nil ?_
  refine sw_seq ?_
  refine sl_region ?_
  refine sl_mv rfl rfl rfl ?_
  refine sl_nc rfl rfl rfl rfl ?_
  first
    | refine sl_fieldAddr_ptr rfl rfl rfl fo_30_0 ?_
    | refine sl_fieldAddr_rp rfl rfl rfl fo_30_0 ?_
    | refine sl_fieldAddr_ref rfl rfl rfl fo_30_0 ?_
  refine sl_mv rfl rfl rfl ?_
  refine sl_bs1 rfl rfl (.cons rfl .nil) u_52 sz_2 zs_2 (by decide) rfl rfl rfl rfl ?_
  refine sl_callf rfl rfl cal_17 (int_ok p2 v2 [] [b] (.blk p1 [.own v3 ((encInt a).map byteV)] :: .spare v3 1 :: []) (by intro n hn; simp at hn; subst hn; exact hb) (by simp)) ?_ ?_ ?_ (fun _ _ h => h.elim)
  · repeat constructor
  · repeat constructor
  rintro _ _ ⟨rfl, v4, rfl⟩
  rw [one_int]
  refine sl_nil ?_
  refine sw_seq ?_
  refine sl_region ?_
  refine sl_mv rfl rfl rfl ?_
  refine sl_nc rfl rfl rfl rfl ?_
  first
    | refine sl_fieldAddr_ptr rfl rfl rfl fo_30_0 ?_
    | refine sl_fieldAddr_rp rfl rfl rfl fo_30_0 ?_
    | refine sl_fieldAddr_ref rfl rfl rfl fo_30_0 ?_
  refine sl_callf rfl rfl cal_19 (bytes_ok p1 v3 (encInt a) (.spare v3 1 :: .blk p2 [.own v4 ((encInt b).map byteV)] :: .spare v4 1 :: []) (by omega)) ?_ ?_ ?_ (fun _ _ h => h.elim)
  · repeat constructor
  · repeat constructor
  rintro _ _ ⟨rfl, rfl⟩
  refine sl_callf rfl rfl cal_18 (newReader_ok (encInt a) (.blk p1 [.own v3 ((encInt a).map byteV)] :: .spare v3 1 :: .blk p2 [.own v4 ((encInt b).map byteV)] :: .spare v4 1 :: []) (by omega)) ?_ ?_ ?_ (fun _ _ h => h.elim)
  · repeat constructor
  · repeat constructor
  rintro _ _ ⟨q, rfl, rfl⟩
  refine sl_as rfl rfl rfl ?_
  refine sl_nil ?_
  refine sw_seq ?_
  refine sa_start [] mixed ?_
  refine sa_take 0 rfl rfl (by kernel_rfl) .nil (pu_mv rfl rfl) ?_
  refine sa_take 1 rfl rfl (by kernel_rfl) .nil (pu_nc rfl rfl rfl) ?_
  first
    | refine sa_take 2 rfl rfl (by kernel_rfl) .nil (pu_fieldAddr_ptr rfl rfl fo_30_0) ?_
    | refine sa_take 2 rfl rfl (by kernel_rfl) .nil (pu_fieldAddr_rp rfl rfl fo_30_0) ?_
    | refine sa_take 2 rfl rfl (by kernel_rfl) .nil (pu_fieldAddr_ref rfl rfl fo_30_0) ?_
  refine sa_take 5 rfl rfl (by kernel_rfl) .nil (pu_mv rfl rfl) ?_
  refine sa_take 6 rfl rfl (by kernel_rfl) .nil (pu_nc rfl rfl rfl) ?_
  first
    | refine sa_take 7 rfl rfl (by kernel_rfl) .nil (pu_fieldAddr_ptr rfl rfl fo_30_0) ?_
    | refine sa_take 7 rfl rfl (by kernel_rfl) .nil (pu_fieldAddr_rp rfl rfl fo_30_0) ?_
    | refine sa_take 7 rfl rfl (by kernel_rfl) .nil (pu_fieldAddr_ref rfl rfl fo_30_0) ?_
  refine sa_take 11 rfl rfl (by kernel_rfl) .nil (pu_mv rfl rfl) ?_
  refine sa_take 12 rfl rfl (by kernel_rfl) .nil (pu_mv rfl rfl) ?_
  refine sa_take 13 rfl rfl (by kernel_rfl) .nil (pu_bin rfl rfl rfl rfl) ?_
  refine sa_one 3 (by kernel_rfl) rfl ?_
  refine sl_callf rfl rfl cal_19 (bytes_ok p1 v3 (encInt a) (rd q (encInt a) false :: .blk p2 [.own v4 ((encInt b).map byteV)] :: []) (by omega)) ?_ ?_ ?_ (fun _ _ h => h.elim)
  · repeat constructor
  · repeat constructor
  rintro _ _ ⟨rfl, rfl⟩
  refine sl_nil ⟨.nil, ?_⟩
  refine sa_take 4 rfl rfl (by kernel_rfl) .nil (pu_bytes_str rfl rfl u_26 u_5 u_9) ?_
  refine sa_one 8 (by kernel_rfl) rfl ?_
  refine sl_callf rfl rfl cal_19 (bytes_ok p2 v4 (encInt b) (rd q (encInt a) false :: .blk p1 [.own v3 ((encInt a).map byteV)] :: []) (by omega)) ?_ ?_ ?_ (fun _ _ h => h.elim)
  · repeat constructor
  · repeat constructor
  rintro _ _ ⟨rfl, rfl⟩
  refine sl_nil ⟨.nil, ?_⟩
  refine sa_take 9 rfl rfl (by kernel_rfl) .nil (pu_bytes_str rfl rfl u_26 u_5 u_9) ?_
  refine sa_take 10 rfl rfl (by kernel_rfl) .nil (pu_str rfl rfl rfl rfl) ?_
  refine sa_take 14 rfl rfl (by kernel_rfl) .nil (pu_bool_eq rfl rfl rfl u_4) ?_
  refine sa_take 15 rfl rfl (by kernel_rfl) .nil (pu_mv rfl rfl) ?_
  refine sa_take_y 16 rfl rfl rfl rfl (codeInts_1 ha hb) (by kernel_rfl) .nil (pu_mv rfl rfl) ?_
  refine sa_take_y 18 rfl rfl rfl rfl (codeInts_1 ha hb) (by kernel_rfl) .nil (pu_mv rfl rfl) ?_
  refine sa_one 17 (by kernel_rfl) rfl ?_
  refine sl_guard_y rfl rfl rfl (codeInts_1 ha hb) ?_
  refine sl_callf rfl rfl cal_20 (pInt_ok q (some (encInt a)) _ (.blk p1 [.own v3 ((encInt a).map byteV)] :: .blk p2 [.own v4 ((encInt b).map byteV)] :: []) ⟨rfl, by omega⟩) ?_ ?_ ?_ (fun _ _ h => h.elim)
  · repeat constructor
  · repeat constructor
  rintro _ _ ⟨rfl, c2, h2, rfl⟩
  refine sl_nil ⟨.nil, ?_⟩
  rw [dec_int ha] at h2 ⊢
  refine sa_take_y 19 rfl rfl rfl rfl (codeInts_1 ha hb) (by kernel_rfl) .nil (pu_bin rfl rfl rfl rfl) ?_
  refine sa_take 20 rfl rfl (by kernel_rfl) .nil (pu_pk_t rfl rfl (codeInts_1 ha hb) rfl) ?_
  refine sa_take 21 rfl rfl (by kernel_rfl) .nil (pu_mv rfl rfl) ?_
  refine sa_take_y 22 rfl rfl rfl rfl (by simp) (by kernel_rfl) .nil (pu_mv rfl rfl) ?_
  refine sa_one 23 (by kernel_rfl) rfl ?_
  refine sl_guard_y rfl rfl rfl (by simp) ?_
  refine sl_callf rfl rfl cal_21 (done_ok q (some []) c2 (.blk p1 [.own v3 ((encInt a).map byteV)] :: .blk p2 [.own v4 ((encInt b).map byteV)] :: []) h2) ?_ ?_ ?_ (fun _ _ h => h.elim)
  · repeat constructor
  · repeat constructor
  rintro _ _ ⟨rfl, rfl⟩
  refine sl_nil ⟨.nil, ?_⟩
  refine sa_take_y 24 rfl rfl rfl rfl (by simp) (by kernel_rfl) .nil (pu_bin rfl rfl rfl rfl) ?_
  refine sa_take 25 rfl rfl (by kernel_rfl) .nil (pu_pk_t rfl rfl (by simp) rfl) ?_
  refine sa_take 26 rfl rfl (by kernel_rfl) .nil (pu_mv rfl rfl) ?_
  refine sa_take_y 27 rfl rfl rfl rfl (rfl) (by kernel_rfl) .nil (pu_mv rfl rfl) ?_
  refine sa_take_y 29 rfl rfl rfl rfl (rfl) (by kernel_rfl) .nil (pu_mv rfl rfl) ?_
  refine sa_one 28 (by kernel_rfl) rfl ?_
  refine sl_guard_y rfl rfl rfl (rfl) ?_
  refine sl_callf rfl rfl cal_22 (zig_ok a (c2 :: .blk p1 [.own v3 ((encInt a).map byteV)] :: .blk p2 [.own v4 ((encInt b).map byteV)] :: []) ha) ?_ ?_ ?_ (fun _ _ h => h.elim)
  · repeat constructor
  · repeat constructor
  rintro _ _ ⟨rfl, rfl⟩
  refine sl_nil ⟨.nil, ?_⟩
  refine sa_one 30 (by kernel_rfl) rfl ?_
  refine sl_guard_y rfl rfl rfl (rfl) ?_
  refine sl_callf rfl rfl cal_22 (zig_ok b (c2 :: .blk p1 [.own v3 ((encInt a).map byteV)] :: .blk p2 [.own v4 ((encInt b).map byteV)] :: []) hb) ?_ ?_ ?_ (fun _ _ h => h.elim)
  · repeat constructor
  · repeat constructor
  rintro _ _ ⟨rfl, rfl⟩
  refine sl_nil ⟨.nil, ?_⟩
  refine sa_take_y 31 rfl rfl rfl rfl (rfl) (by kernel_rfl) .nil (pu_bin rfl rfl rfl rfl) ?_
  refine sa_take_y 32 rfl rfl rfl rfl (rfl) (by kernel_rfl) .nil (pu_mv rfl rfl) ?_
  refine sa_case_at 61 rfl (fun hz => ?_) (fun hz => ?_)
  · refine sa_take_n 33 rfl rfl rfl rfl hz (by kernel_rfl) .nil ?_
    refine sa_take_n 34 rfl rfl rfl rfl hz (by kernel_rfl) .nil ?_
    refine sa_take_n 35 rfl rfl rfl rfl hz (by kernel_rfl) .nil ?_
    refine sa_take_n 36 rfl rfl rfl rfl hz (by kernel_rfl) .nil ?_
    refine sa_take_n 37 rfl rfl rfl rfl hz (by kernel_rfl) .nil ?_
    refine sa_take_n 38 rfl rfl rfl rfl hz (by kernel_rfl) .nil ?_
    refine sa_take_n 39 rfl rfl rfl rfl hz (by kernel_rfl) .nil ?_
    refine sa_take_n 40 rfl rfl rfl rfl hz (by kernel_rfl) .nil ?_
    refine sa_take_n 41 rfl rfl rfl rfl hz (by kernel_rfl) .nil ?_
    refine sa_take_n 42 rfl rfl rfl rfl hz (by kernel_rfl) .nil ?_
    refine sa_take_n 43 rfl rfl rfl rfl hz (by kernel_rfl) .nil ?_
    refine sa_take_y 44 rfl rfl rfl rfl (rfl) (by kernel_rfl) .nil (pu_pk_t rfl rfl hz rfl) ?_
    refine sa_take 45 rfl rfl (by kernel_rfl) .nil (pu_pk_t rfl rfl (rfl) rfl) ?_
    refine sa_one 46 (by kernel_rfl) rfl ?_
    refine sl_as rfl rfl rfl ?_
    refine sl_nil ⟨.nil, ?_⟩
    refine sa_done (by kernel_rfl) ?_
    refine sw_ret ⟨rfl, _, _, res_one rfl rfl, ?_, ⟨rfl, rfl⟩⟩
    repeat constructor
  refine sa_take_y 33 rfl rfl rfl rfl hz (by kernel_rfl) .nil (pu_mv rfl rfl) ?_
  refine sa_take_y 34 rfl rfl rfl rfl hz (by kernel_rfl) .nil (pu_nc rfl rfl rfl) ?_
  first
    | refine sa_take_y 35 rfl rfl rfl rfl hz (by kernel_rfl) .nil (pu_fieldAddr_ptr rfl rfl fo_30_0) ?_
    | refine sa_take_y 35 rfl rfl rfl rfl hz (by kernel_rfl) .nil (pu_fieldAddr_rp rfl rfl fo_30_0) ?_
    | refine sa_take_y 35 rfl rfl rfl rfl hz (by kernel_rfl) .nil (pu_fieldAddr_ref rfl rfl fo_30_0) ?_
  refine sa_take_y 38 rfl rfl rfl rfl hz (by kernel_rfl) .nil (pu_mv rfl rfl) ?_
  refine sa_take_y 39 rfl rfl rfl rfl hz (by kernel_rfl) .nil (pu_nc rfl rfl rfl) ?_
  first
    | refine sa_take_y 40 rfl rfl rfl rfl hz (by kernel_rfl) .nil (pu_fieldAddr_ptr rfl rfl fo_30_0) ?_
    | refine sa_take_y 40 rfl rfl rfl rfl hz (by kernel_rfl) .nil (pu_fieldAddr_rp rfl rfl fo_30_0) ?_
    | refine sa_take_y 40 rfl rfl rfl rfl hz (by kernel_rfl) .nil (pu_fieldAddr_ref rfl rfl fo_30_0) ?_
  refine sa_one 36 (by kernel_rfl) rfl ?_
  refine sl_guard_y rfl rfl rfl hz ?_
  refine sl_callf rfl rfl cal_19 (bytes_ok p1 v3 (encInt a) (.blk p2 [.own v4 ((encInt b).map byteV)] :: []) (by omega)) ?_ ?_ ?_ (fun _ _ h => h.elim)
  · repeat constructor
  · repeat constructor
  rintro _ _ ⟨rfl, rfl⟩
  refine sl_nil ⟨.nil, ?_⟩
  first
    | refine sa_take_y 37 rfl rfl rfl rfl hz (by kernel_rfl) .nil (pu_len rfl rfl ⟨_, u_26⟩) ?_
    | refine sa_take_y 37 rfl rfl rfl rfl hz (by kernel_rfl) .nil (pu_len_sl rfl rfl ⟨_, u_26⟩) ?_
    | refine sa_take_y 37 rfl rfl rfl rfl hz (by kernel_rfl) .nil (pu_len_w _ rfl rfl ⟨_, u_26⟩) ?_
  refine sa_one 41 (by kernel_rfl) rfl ?_
  refine sl_guard_y rfl rfl rfl hz ?_
  refine sl_callf rfl rfl cal_19 (bytes_ok p2 v4 (encInt b) [] (by omega)) ?_ ?_ ?_ (fun _ _ h => h.elim)
  · repeat constructor
  · repeat constructor
  rintro _ _ ⟨rfl, rfl⟩
  refine sl_nil ⟨.nil, ?_⟩
  first
    | refine sa_take_y 42 rfl rfl rfl rfl hz (by kernel_rfl) .nil (pu_len rfl rfl ⟨_, u_26⟩) ?_
    | refine sa_take_y 42 rfl rfl rfl rfl hz (by kernel_rfl) .nil (pu_len_sl rfl rfl ⟨_, u_26⟩) ?_
    | refine sa_take_y 42 rfl rfl rfl rfl hz (by kernel_rfl) .nil (pu_len_w _ rfl rfl ⟨_, u_26⟩) ?_
  refine sa_take_y 43 rfl rfl rfl rfl hz (by kernel_rfl) .nil (pu_bin rfl rfl rfl rfl) ?_
  refine sa_take_y 44 rfl rfl rfl rfl (rfl) (by kernel_rfl) .nil (pu_pk_f rfl rfl hz rfl) ?_
  refine sa_take 45 rfl rfl (by kernel_rfl) .nil (pu_pk_t rfl rfl (rfl) rfl) ?_
  refine sa_one 46 (by kernel_rfl) rfl ?_
  refine sl_as rfl rfl rfl ?_
  refine sl_nil ⟨.nil, ?_⟩
  refine sa_done (by kernel_rfl) ?_
  refine sw_ret ⟨rfl, _, _, res_one rfl rfl, ?_, ⟨congrArg (fun z => D.val (.bool z)) (ints_short hz), rfl⟩⟩
  repeat constructor

end Go.Proofs.Ytioechdfghglhaa

/- Walks: printed by a program of this session out of its script CodeF. -/
namespace Go.Proofs.Ytioechdfghglhaa
set_option linter.unusedVariables false
set_option linter.unusedSimpArgs false
set_option maxRecDepth 4000
set_option maxHeartbeats 4000000
open Go Go.RowKit SL


theorem encText_len {s : List UInt8} (h : s.length ≤ 100) : (encText s).length ≤ 110 := by
  have := encNum_len (n := s.length) (by omega)
  unfold encText; rw [List.length_append]; omega

theorem encBool_len (b : Bool) : (encBool b).length ≤ 10 := by
  rw [encBool_eq]; simp

theorem flat_all {α : Type} {f : α → List UInt8} {c : Nat} {ns : List α} (h : ∀ n ∈ ns, (f n).length ≤ c) : (ns.flatMap f).length ≤ c * ns.length := by
  have := flat_len h ns.length
  rwa [List.take_length] at this

/-- CodeTogether. -/
theorem codeTogether_ok (ns : List Nat) (is : List Int) (ss : List (List UInt8)) (bs : List Bool) (hns : ∀ n ∈ ns, n < 18446744073709551616) (his : ∀ n ∈ is, isI64 n) :
    FSpec Try.prog 6 [.val (.list (ns.map u64V)), .val (.list (is.map i64V)), .val (.list (ss.map strV)), .val (.list (bs.map boolV))] [] (fun d σ' => d = .val (.bool true) ∧ σ' = []) := by
  refine spec_of_sw Try.func6 rfl ?_
  refine sw_seq ?_
  refine sl_region ?_
  refine sl_as rfl rfl rfl ?_
  refine sl_nil ?_
  refine sw_seq ?_
  refine sw_seq ?_
  refine sl_region ?_
  refine sl_callf rfl rfl cal_15 (known2_ok []) ?_ ?_ ?_ (fun _ _ h => h.elim)
  · repeat constructor
  · repeat constructor
  rintro _ _ ⟨rfl, rfl⟩
  refine sl_not rfl rfl rfl ?_
  refine sl_nil ?_
  refine sw_false rfl (rfl) ?_
  refine sw_skip ?_
  refine sw_seq ?_
  refine sw_seq ?_
  refine sl_region ?_
  refine sl_mv rfl rfl rfl ?_
  first
    | refine sl_len rfl rfl rfl ⟨_, u_51⟩ ?_
    | refine sl_len_sl rfl rfl rfl ⟨_, u_51⟩ ?_
    | refine sl_len_w _ rfl rfl rfl ⟨_, u_51⟩ ?_
  refine sl_bin rfl rfl rfl rfl rfl ?_
  refine sl_mv rfl rfl rfl ?_
  refine sl_case_at 21 rfl (fun h1 => ?_) (fun h1 => ?_)
  · refine sl_guard_n rfl rfl rfl h1 ?_
    refine sl_guard_n rfl rfl rfl h1 ?_
    refine sl_guard_n rfl rfl rfl h1 ?_
    refine sl_pk_t rfl rfl rfl h1 rfl ?_
    refine sl_mv rfl rfl rfl ?_
    refine sl_guard_n rfl rfl rfl (rfl) ?_
    refine sl_guard_n rfl rfl rfl (rfl) ?_
    refine sl_guard_n rfl rfl rfl (rfl) ?_
    refine sl_pk_t rfl rfl rfl (rfl) rfl ?_
    refine sl_mv rfl rfl rfl ?_
    refine sl_guard_n rfl rfl rfl (rfl) ?_
    refine sl_guard_n rfl rfl rfl (rfl) ?_
    refine sl_guard_n rfl rfl rfl (rfl) ?_
    refine sl_pk_t rfl rfl rfl (rfl) rfl ?_
    refine sl_nil ?_
    refine sw_true rfl (rfl) ?_
    refine sw_seq ?_
    refine sl_region ?_
    refine sl_as rfl rfl rfl ?_
    refine sl_nil ?_
    refine sw_ret ⟨rfl, _, _, res_one rfl rfl, ?_, ⟨rfl, rfl⟩⟩
    repeat constructor
  refine sl_guard_y rfl rfl rfl h1 ?_
  refine sl_mv rfl rfl rfl ?_
  refine sl_guard_y rfl rfl rfl h1 ?_
  first
    | refine sl_len rfl rfl rfl ⟨_, u_52⟩ ?_
    | refine sl_len_sl rfl rfl rfl ⟨_, u_52⟩ ?_
    | refine sl_len_w _ rfl rfl rfl ⟨_, u_52⟩ ?_
  refine sl_guard_y rfl rfl rfl h1 ?_
  refine sl_bin rfl rfl rfl rfl rfl ?_
  refine sl_pk_f rfl rfl rfl h1 rfl ?_
  refine sl_mv rfl rfl rfl ?_
  refine sl_case_at 26 rfl (fun h2 => ?_) (fun h2 => ?_)
  · refine sl_guard_n rfl rfl rfl h2 ?_
    refine sl_guard_n rfl rfl rfl h2 ?_
    refine sl_guard_n rfl rfl rfl h2 ?_
    refine sl_pk_t rfl rfl rfl h2 rfl ?_
    refine sl_mv rfl rfl rfl ?_
    refine sl_guard_n rfl rfl rfl (rfl) ?_
    refine sl_guard_n rfl rfl rfl (rfl) ?_
    refine sl_guard_n rfl rfl rfl (rfl) ?_
    refine sl_pk_t rfl rfl rfl (rfl) rfl ?_
    refine sl_nil ?_
    refine sw_true rfl (rfl) ?_
    refine sw_seq ?_
    refine sl_region ?_
    refine sl_as rfl rfl rfl ?_
    refine sl_nil ?_
    refine sw_ret ⟨rfl, _, _, res_one rfl rfl, ?_, ⟨rfl, rfl⟩⟩
    repeat constructor
  refine sl_guard_y rfl rfl rfl h2 ?_
  refine sl_mv rfl rfl rfl ?_
  refine sl_guard_y rfl rfl rfl h2 ?_
  first
    | refine sl_len rfl rfl rfl ⟨_, u_53⟩ ?_
    | refine sl_len_sl rfl rfl rfl ⟨_, u_53⟩ ?_
    | refine sl_len_w _ rfl rfl rfl ⟨_, u_53⟩ ?_
  refine sl_guard_y rfl rfl rfl h2 ?_
  refine sl_bin rfl rfl rfl rfl rfl ?_
  refine sl_pk_f rfl rfl rfl h2 rfl ?_
  refine sl_mv rfl rfl rfl ?_
  refine sl_case_at 31 rfl (fun h3 => ?_) (fun h3 => ?_)
  · refine sl_guard_n rfl rfl rfl h3 ?_
    refine sl_guard_n rfl rfl rfl h3 ?_
    refine sl_guard_n rfl rfl rfl h3 ?_
    refine sl_pk_t rfl rfl rfl h3 rfl ?_
    refine sl_nil ?_
    refine sw_true rfl (rfl) ?_
    refine sw_seq ?_
    refine sl_region ?_
    refine sl_as rfl rfl rfl ?_
    refine sl_nil ?_
    refine sw_ret ⟨rfl, _, _, res_one rfl rfl, ?_, ⟨rfl, rfl⟩⟩
    repeat constructor
  refine sl_guard_y rfl rfl rfl h3 ?_
  refine sl_mv rfl rfl rfl ?_
  refine sl_guard_y rfl rfl rfl h3 ?_
  first
    | refine sl_len rfl rfl rfl ⟨_, u_54⟩ ?_
    | refine sl_len_sl rfl rfl rfl ⟨_, u_54⟩ ?_
    | refine sl_len_w _ rfl rfl rfl ⟨_, u_54⟩ ?_
  refine sl_guard_y rfl rfl rfl h3 ?_
  refine sl_bin rfl rfl rfl rfl rfl ?_
  refine sl_pk_f rfl rfl rfl h3 rfl ?_
  refine sl_nil ?_
  refine sw_cond rfl (fun h4 => ?_) (fun h4 => ?_)
  · refine sw_seq ?_
    refine sl_region ?_
    refine sl_as rfl rfl rfl ?_
    refine sl_nil ?_
    refine sw_ret ⟨rfl, _, _, res_one rfl rfl, ?_, ⟨rfl, rfl⟩⟩
    repeat constructor
  have h1 : ns.length ≤ 20 := by have := of_decide_eq_false h1; simp only [List.length_map] at this; omega
  have h2 : is.length ≤ 20 := by have := of_decide_eq_false h2; simp only [List.length_map] at this; omega
  have h3 : ss.length ≤ 20 := by have := of_decide_eq_false h3; simp only [List.length_map] at this; omega
  have h4 : bs.length ≤ 20 := by have := of_decide_eq_false h4; simp only [List.length_map] at this; omega
  have l1 := flat_all (f := encNum) (c := 10) (ns := ns) (fun n hn => encNum_len (hns n hn))
  have l2 := flat_all (f := encInt) (c := 10) (ns := is) (fun n hn => encNum_len (zig_lt (his n hn)))
  have l4 := flat_all (f := encBool) (c := 10) (ns := bs) (fun b hb => encBool_len b)
  refine sw_skip ?_
  refine sw_seq ?_
  refine sl_region ?_
  refine sl_callf rfl rfl cal_16 (newWriter_ok []) ?_ ?_ ?_ (fun _ _ h => h.elim)
  · repeat constructor
  · repeat constructor
  rintro _ _ ⟨p1, v1, rfl, rfl⟩
  refine sl_callf rfl rfl cal_16 (newWriter_ok (.blk p1 [.own v1 (([] : List UInt8).map byteV)] :: .spare v1 1 :: [])) ?_ ?_ ?_ (fun _ _ h => h.elim)
  · repeat constructor
  · repeat constructor
  rintro _ _ ⟨p2, w0, rfl, rfl⟩
  refine sl_as rfl rfl rfl ?_
  refine sl_as rfl rfl rfl ?_
  refine sl_nil ?_
  refine sw_seq ?_
  refine sl_region ?_
  refine sl_mv rfl rfl rfl ?_
  refine sl_nc rfl rfl rfl rfl ?_
  first
    | refine sl_fieldAddr_ptr rfl rfl rfl fo_30_0 ?_
    | refine sl_fieldAddr_rp rfl rfl rfl fo_30_0 ?_
    | refine sl_fieldAddr_ref rfl rfl rfl fo_30_0 ?_
  refine sl_mv rfl rfl rfl ?_
  refine sl_callf rfl rfl cal_28 (num_ok p1 v1 [] ns (.blk p2 [.own w0 (([] : List UInt8).map byteV)] :: .spare w0 1 :: []) hns (by simp only [List.length_append, List.length_cons, List.length_nil]; omega)) ?_ ?_ ?_ (fun _ _ h => h.elim)
  · repeat constructor
  · repeat constructor
  rintro _ _ ⟨rfl, w1, rfl⟩
  refine sl_nil ?_
  refine sw_seq ?_
  refine sl_region ?_
  refine sl_mv rfl rfl rfl ?_
  refine sl_nc rfl rfl rfl rfl ?_
  first
    | refine sl_fieldAddr_ptr rfl rfl rfl fo_30_0 ?_
    | refine sl_fieldAddr_rp rfl rfl rfl fo_30_0 ?_
    | refine sl_fieldAddr_ref rfl rfl rfl fo_30_0 ?_
  refine sl_mv rfl rfl rfl ?_
  refine sl_callf rfl rfl cal_17 (int_ok p1 w1 (([] : List UInt8) ++ ns.flatMap encNum) is (.blk p2 [.own w0 (([] : List UInt8).map byteV)] :: .spare w0 1 :: []) his (by simp only [List.length_append, List.length_cons, List.length_nil]; omega)) ?_ ?_ ?_ (fun _ _ h => h.elim)
  · repeat constructor
  · repeat constructor
  rintro _ _ ⟨rfl, w2, rfl⟩
  refine sl_nil ?_
  refine sw_seq ?_
  refine sw_seq ?_
  refine sl_region ?_
  refine sl_as rfl rfl rfl ?_
  refine sl_nil ?_
  refine sw_block ?_
  refine sw_loopw (fun nX sX δX σX => ∃ (k : Nat), (ss.length - k) = nX ∧ sX = ⟨141, (.cons 0 (.val (.list (ns.map u64V))) (.cons 1 (.val (.list (is.map i64V))) (.cons 2 (.val (.list (ss.map strV))) (.cons 3 (.val (.list (bs.map boolV))) (.cons 9 (.ptr p1 0) (.cons 10 (.ptr p2 0) (.cons 11 (.val (.int .i64 (k : Int))) .nil)))))))⟩ ∧ δX = [] ∧ σX = .blk p1 [.own w2 ((([] : List UInt8) ++ ns.flatMap encNum ++ is.flatMap encInt).map byteV)] :: .spare w2 1 :: .blk p2 [.own w0 (([] : List UInt8).map byteV)] :: .spare w0 1 :: [] ∧ (k ≤ ss.length) ∧ (∀ s ∈ ss.take k, s.length ≤ 100)) ?_ ?_
  · refine ⟨_, _, _, ?_, ?_, 0, rfl, rfl, rfl, rfl, Nat.zero_le _, by simp⟩
    · exact ⟨rfl, by repeat constructor⟩
    · repeat constructor
  rintro nX sX δX σX ⟨k, rfl, rfl, rfl, rfl, hk0, hss⟩
  refine sw_seq ?_
  refine sw_seq ?_
  refine sl_region ?_
  refine sl_mv rfl rfl rfl ?_
  refine sl_mv rfl rfl rfl ?_
  first
    | refine sl_len rfl rfl rfl ⟨_, u_53⟩ ?_
    | refine sl_len_sl rfl rfl rfl ⟨_, u_53⟩ ?_
    | refine sl_len_w _ rfl rfl rfl ⟨_, u_53⟩ ?_
  refine sl_bin rfl rfl rfl rfl rfl ?_
  refine sl_nil ?_
  refine sw_cond rfl (fun hk => ?_) (fun hk => ?_)
  · have hk : k < ss.length := by simpa using hk
    refine sw_skip ?_
    refine sw_seq ?_
    refine sw_block ?_
    refine sw_seq ?_
    refine sl_region ?_
    refine sl_mv rfl rfl rfl ?_
    refine sl_mv rfl rfl rfl ?_
    refine sl_indexAddr' rfl rfl rfl rfl u_53 sz_9 (by omega) (idx_map hk) rfl ?_
    first
      | refine sl_load_rp1 rfl rfl rfl ag_9 rfl ?_
      | refine sl_load_blk1 rfl rfl rfl ag_9 (by repeat constructor) rfl ?_
    refine sl_len_str rfl rfl rfl u_9 ?_
    refine sl_bin rfl rfl rfl rfl rfl ?_
    refine sl_nil ?_
    refine sw_cond rfl (fun hlong => ?_) (fun hlong => ?_)
    · refine sw_seq ?_
      refine sl_region ?_
      refine sl_as rfl rfl rfl ?_
      refine sl_nil ?_
      refine sw_ret ⟨rfl, _, _, res_one rfl rfl, ?_, ⟨rfl, rfl⟩⟩
      repeat constructor
    have hs1 : ss[k].length ≤ 100 := by have := of_decide_eq_false hlong; omega
    refine sw_skip ?_
    refine sl_region ?_
    refine sl_mv rfl rfl rfl ?_
    first
      | refine sl_inc rfl rfl rfl rfl (by omega) ?_
      | refine sl_add rfl rfl rfl rfl (by constructor <;> omega) ?_
      | refine sl_bin rfl rfl rfl rfl rfl ?_
    refine sl_as rfl rfl rfl ?_
    refine sl_nil ?_
    refine ⟨_, by omega, _, _, ?_, ?_, k + 1, rfl, rfl, rfl, rfl, by omega, all_take_snoc hss hk hs1⟩
    · exact ⟨rfl, by repeat constructor⟩
    · repeat constructor
  have hk : k = ss.length := by have h9 : ¬ k < ss.length := (by simpa using hk); omega
  subst hk
  rw [List.take_length] at hss
  have l3 := flat_all (f := encText) (c := 110) (ns := ss) (fun s hs => encText_len (hss s hs))
  refine sw_exit ?_
  refine sw_seq ?_
  refine sl_region ?_
  refine sl_mv rfl rfl rfl ?_
  refine sl_nc rfl rfl rfl rfl ?_
  first
    | refine sl_fieldAddr_ptr rfl rfl rfl fo_30_0 ?_
    | refine sl_fieldAddr_rp rfl rfl rfl fo_30_0 ?_
    | refine sl_fieldAddr_ref rfl rfl rfl fo_30_0 ?_
  refine sl_mv rfl rfl rfl ?_
  refine sl_callf rfl rfl cal_29 (text_ok p1 w2 (([] : List UInt8) ++ ns.flatMap encNum ++ is.flatMap encInt) ss 100 (.blk p2 [.own w0 (([] : List UInt8).map byteV)] :: .spare w0 1 :: []) hss (by simp only [List.length_append, List.length_cons, List.length_nil]; omega)) ?_ ?_ ?_ (fun _ _ h => h.elim)
  · repeat constructor
  · repeat constructor
  rintro _ _ ⟨rfl, w3, rfl⟩
  refine sl_nil ?_
  refine sw_seq ?_
  refine sl_region ?_
  refine sl_mv rfl rfl rfl ?_
  refine sl_nc rfl rfl rfl rfl ?_
  first
    | refine sl_fieldAddr_ptr rfl rfl rfl fo_30_0 ?_
    | refine sl_fieldAddr_rp rfl rfl rfl fo_30_0 ?_
    | refine sl_fieldAddr_ref rfl rfl rfl fo_30_0 ?_
  refine sl_mv rfl rfl rfl ?_
  refine sl_callf rfl rfl cal_30 (bool_ok p1 w3 (([] : List UInt8) ++ ns.flatMap encNum ++ is.flatMap encInt ++ ss.flatMap encText) bs (.blk p2 [.own w0 (([] : List UInt8).map byteV)] :: .spare w0 1 :: []) (by simp only [List.length_append, List.length_cons, List.length_nil]; omega)) ?_ ?_ ?_ (fun _ _ h => h.elim)
  · repeat constructor
  · repeat constructor
  rintro _ _ ⟨rfl, w4, rfl⟩
  obtain ⟨full, hfull⟩ : ∃ full, full = ([] : List UInt8) ++ ns.flatMap encNum ++ is.flatMap encInt ++ ss.flatMap encText ++ bs.flatMap encBool := ⟨_, rfl⟩
  rw [← hfull]
  refine sl_nil ?_
  refine sw_seq ?_
  refine sw_seq ?_
  refine sl_region ?_
  refine sl_as rfl rfl rfl ?_
  refine sl_nil ?_
  refine sw_block ?_
  refine sw_loopw (fun nX sX δX σX => ∃ (k : Nat) (v : Value) (m : List UInt8), (ns.length - k) = nX ∧ sX = ⟨141, (.cons 0 (.val (.list (ns.map u64V))) (.cons 1 (.val (.list (is.map i64V))) (.cons 2 (.val (.list (ss.map strV))) (.cons 3 (.val (.list (bs.map boolV))) (.cons 9 (.ptr p1 0) (.cons 10 (.ptr p2 0) (.cons 12 (.val (.int .i64 (k : Int))) .nil)))))))⟩ ∧ δX = [] ∧ σX = .blk p2 [.own v (m.map byteV)] :: .spare v 1 :: .blk p1 [.own w4 (full.map byteV)] :: .spare w4 1 :: [] ∧ (k ≤ ns.length) ∧ (m = ([] : List UInt8) ++ (ns.take k).flatMap encNum)) ?_ ?_
  · refine ⟨_, _, _, ?_, ?_, 0, w0, ([] : List UInt8), rfl, rfl, rfl, rfl, Nat.zero_le _, by simp⟩
    · exact ⟨rfl, by repeat constructor⟩
    · repeat constructor
  rintro nX sX δX σX ⟨k, v, m, rfl, rfl, rfl, rfl, hk0, hm0⟩
  refine sw_seq ?_
  refine sw_seq ?_
  refine sl_region ?_
  refine sl_mv rfl rfl rfl ?_
  refine sl_mv rfl rfl rfl ?_
  first
    | refine sl_len rfl rfl rfl ⟨_, u_51⟩ ?_
    | refine sl_len_sl rfl rfl rfl ⟨_, u_51⟩ ?_
    | refine sl_len_w _ rfl rfl rfl ⟨_, u_51⟩ ?_
  refine sl_bin rfl rfl rfl rfl rfl ?_
  refine sl_nil ?_
  refine sw_cond rfl (fun hk => ?_) (fun hk => ?_)
  · have hk : k < ns.length := by simpa using hk
    have hml : m.length + 10 ≤ 100000000 := by
      have := flat_len (f := encNum) (c := 10) (ns := ns) (fun n hn => encNum_len (hns n hn)) k
      have h2 : 10 * k ≤ 10 * 20 := Nat.mul_le_mul (Nat.le_refl _) (by omega)
      rw [hm0]; simp only [List.length_append, List.length_nil]; omega
    refine sw_skip ?_
    refine sw_seq ?_
    refine sw_block ?_
    refine sa_start [] mixed ?_
    refine sa_take 0 rfl rfl (by kernel_rfl) .nil (pu_mv rfl rfl) ?_
    refine sa_take 1 rfl rfl (by kernel_rfl) .nil (pu_nc rfl rfl rfl) ?_
    first
      | refine sa_take 2 rfl rfl (by kernel_rfl) .nil (pu_fieldAddr_ptr rfl rfl fo_30_0) ?_
      | refine sa_take 2 rfl rfl (by kernel_rfl) .nil (pu_fieldAddr_rp rfl rfl fo_30_0) ?_
      | refine sa_take 2 rfl rfl (by kernel_rfl) .nil (pu_fieldAddr_ref rfl rfl fo_30_0) ?_
    refine sa_take 3 rfl rfl (by kernel_rfl) .nil (pu_mv rfl rfl) ?_
    refine sa_take 4 rfl rfl (by kernel_rfl) .nil (pu_mv rfl rfl) ?_
    refine sa_take 5 rfl rfl (by kernel_rfl) .nil (pu_indexAddr rfl rfl rfl u_51 sz_37 (by omega) (idx_map hk) rfl) ?_
    refine sa_take 6 rfl rfl (by kernel_rfl) .nil (pu_load_rp1 rfl rfl ag_37 rfl) ?_
    refine sa_one 7 (by kernel_rfl) rfl ?_
    refine sl_bs1 rfl rfl (.cons rfl .nil) u_51 sz_37 zs_37 (by decide) rfl rfl rfl rfl ?_
    refine sl_nil ⟨.nil, ?_⟩
    refine sa_one 8 (by kernel_rfl) rfl ?_
    refine sl_callf rfl rfl cal_28 (num_ok p2 v m [ns[k]] (.blk p1 [.own w4 (full.map byteV)] :: .spare w4 1 :: []) (by intro n hn; rw [List.mem_singleton.mp hn]; exact hns _ (List.getElem_mem hk)) (by simp only [List.length_append, List.length_cons, List.length_nil]; omega)) ?_ ?_ ?_ (fun _ _ h => h.elim)
    · repeat constructor
    · repeat constructor
    rintro _ _ ⟨rfl, v2, rfl⟩
    refine sl_nil ⟨.nil, ?_⟩
    refine sa_done (by kernel_rfl) ?_
    refine sl_region ?_
    refine sl_mv rfl rfl rfl ?_
    first
      | refine sl_inc rfl rfl rfl rfl (by omega) ?_
      | refine sl_add rfl rfl rfl rfl (by constructor <;> omega) ?_
      | refine sl_bin rfl rfl rfl rfl rfl ?_
    refine sl_as rfl rfl rfl ?_
    refine sl_nil ?_
    have e : m ++ [ns[k]].flatMap encNum = ([] : List UInt8) ++ (ns.take (k + 1)).flatMap encNum := by
      rw [flat_snoc hk, hm0]; simp
    refine ⟨_, by omega, _, _, ?_, ?_, k + 1, v2, _, rfl, rfl, rfl, rfl, by omega, e⟩
    · exact ⟨rfl, by repeat constructor⟩
    · repeat constructor
  have hk : k = ns.length := by have h9 : ¬ k < ns.length := (by simpa using hk); omega
  subst hk
  rw [List.take_length] at hm0
  subst hm0
  refine sw_exit ?_
  refine sw_seq ?_
  refine sw_seq ?_
  refine sl_region ?_
  refine sl_as rfl rfl rfl ?_
  refine sl_nil ?_
  refine sw_block ?_
  refine sw_loopw (fun nX sX δX σX => ∃ (k : Nat) (v : Value) (m : List UInt8), (is.length - k) = nX ∧ sX = ⟨141, (.cons 0 (.val (.list (ns.map u64V))) (.cons 1 (.val (.list (is.map i64V))) (.cons 2 (.val (.list (ss.map strV))) (.cons 3 (.val (.list (bs.map boolV))) (.cons 9 (.ptr p1 0) (.cons 10 (.ptr p2 0) (.cons 13 (.val (.int .i64 (k : Int))) .nil)))))))⟩ ∧ δX = [] ∧ σX = .blk p2 [.own v (m.map byteV)] :: .spare v 1 :: .blk p1 [.own w4 (full.map byteV)] :: .spare w4 1 :: [] ∧ (k ≤ is.length) ∧ (m = (([] : List UInt8) ++ ns.flatMap encNum) ++ (is.take k).flatMap encInt)) ?_ ?_
  · refine ⟨_, _, _, ?_, ?_, 0, v, (([] : List UInt8) ++ ns.flatMap encNum), rfl, rfl, rfl, rfl, Nat.zero_le _, by simp⟩
    · exact ⟨rfl, by repeat constructor⟩
    · repeat constructor
  rintro nX sX δX σX ⟨k, v, m, rfl, rfl, rfl, rfl, hk0, hm0⟩
  refine sw_seq ?_
  refine sw_seq ?_
  refine sl_region ?_
  refine sl_mv rfl rfl rfl ?_
  refine sl_mv rfl rfl rfl ?_
  first
    | refine sl_len rfl rfl rfl ⟨_, u_52⟩ ?_
    | refine sl_len_sl rfl rfl rfl ⟨_, u_52⟩ ?_
    | refine sl_len_w _ rfl rfl rfl ⟨_, u_52⟩ ?_
  refine sl_bin rfl rfl rfl rfl rfl ?_
  refine sl_nil ?_
  refine sw_cond rfl (fun hk => ?_) (fun hk => ?_)
  · have hk : k < is.length := by simpa using hk
    have hml : m.length + 10 ≤ 100000000 := by
      have := flat_len (f := encInt) (c := 10) (ns := is) (fun n hn => encNum_len (zig_lt (his n hn))) k
      have h2 : 10 * k ≤ 10 * 20 := Nat.mul_le_mul (Nat.le_refl _) (by omega)
      rw [hm0]; simp only [List.length_append, List.length_nil]; omega
    refine sw_skip ?_
    refine sw_seq ?_
    refine sw_block ?_
    refine sa_start [] mixed ?_
    refine sa_take 0 rfl rfl (by kernel_rfl) .nil (pu_mv rfl rfl) ?_
    refine sa_take 1 rfl rfl (by kernel_rfl) .nil (pu_nc rfl rfl rfl) ?_
    first
      | refine sa_take 2 rfl rfl (by kernel_rfl) .nil (pu_fieldAddr_ptr rfl rfl fo_30_0) ?_
      | refine sa_take 2 rfl rfl (by kernel_rfl) .nil (pu_fieldAddr_rp rfl rfl fo_30_0) ?_
      | refine sa_take 2 rfl rfl (by kernel_rfl) .nil (pu_fieldAddr_ref rfl rfl fo_30_0) ?_
    refine sa_take 3 rfl rfl (by kernel_rfl) .nil (pu_mv rfl rfl) ?_
    refine sa_take 4 rfl rfl (by kernel_rfl) .nil (pu_mv rfl rfl) ?_
    refine sa_take 5 rfl rfl (by kernel_rfl) .nil (pu_indexAddr rfl rfl rfl u_52 sz_2 (by omega) (idx_map hk) rfl) ?_
    refine sa_take 6 rfl rfl (by kernel_rfl) .nil (pu_load_rp1 rfl rfl ag_2 rfl) ?_
    refine sa_one 7 (by kernel_rfl) rfl ?_
    refine sl_bs1 rfl rfl (.cons rfl .nil) u_52 sz_2 zs_2 (by decide) rfl rfl rfl rfl ?_
    refine sl_nil ⟨.nil, ?_⟩
    refine sa_one 8 (by kernel_rfl) rfl ?_
    refine sl_callf rfl rfl cal_17 (int_ok p2 v m [is[k]] (.blk p1 [.own w4 (full.map byteV)] :: .spare w4 1 :: []) (by intro n hn; rw [List.mem_singleton.mp hn]; exact his _ (List.getElem_mem hk)) (by simp only [List.length_append, List.length_cons, List.length_nil]; omega)) ?_ ?_ ?_ (fun _ _ h => h.elim)
    · repeat constructor
    · repeat constructor
    rintro _ _ ⟨rfl, v2, rfl⟩
    refine sl_nil ⟨.nil, ?_⟩
    refine sa_done (by kernel_rfl) ?_
    refine sl_region ?_
    refine sl_mv rfl rfl rfl ?_
    first
      | refine sl_inc rfl rfl rfl rfl (by omega) ?_
      | refine sl_add rfl rfl rfl rfl (by constructor <;> omega) ?_
      | refine sl_bin rfl rfl rfl rfl rfl ?_
    refine sl_as rfl rfl rfl ?_
    refine sl_nil ?_
    have e : m ++ [is[k]].flatMap encInt = (([] : List UInt8) ++ ns.flatMap encNum) ++ (is.take (k + 1)).flatMap encInt := by
      rw [flat_snoc hk, hm0]; simp
    refine ⟨_, by omega, _, _, ?_, ?_, k + 1, v2, _, rfl, rfl, rfl, rfl, by omega, e⟩
    · exact ⟨rfl, by repeat constructor⟩
    · repeat constructor
  have hk : k = is.length := by have h9 : ¬ k < is.length := (by simpa using hk); omega
  subst hk
  rw [List.take_length] at hm0
  subst hm0
  refine sw_exit ?_
  refine sw_seq ?_
  refine sw_seq ?_
  refine sl_region ?_
  refine sl_as rfl rfl rfl ?_
  refine sl_nil ?_
  refine sw_block ?_
  refine sw_loopw (fun nX sX δX σX => ∃ (k : Nat) (v : Value) (m : List UInt8), (ss.length - k) = nX ∧ sX = ⟨141, (.cons 0 (.val (.list (ns.map u64V))) (.cons 1 (.val (.list (is.map i64V))) (.cons 2 (.val (.list (ss.map strV))) (.cons 3 (.val (.list (bs.map boolV))) (.cons 9 (.ptr p1 0) (.cons 10 (.ptr p2 0) (.cons 14 (.val (.int .i64 (k : Int))) .nil)))))))⟩ ∧ δX = [] ∧ σX = .blk p2 [.own v (m.map byteV)] :: .spare v 1 :: .blk p1 [.own w4 (full.map byteV)] :: .spare w4 1 :: [] ∧ (k ≤ ss.length) ∧ (m = ((([] : List UInt8) ++ ns.flatMap encNum) ++ is.flatMap encInt) ++ (ss.take k).flatMap encText)) ?_ ?_
  · refine ⟨_, _, _, ?_, ?_, 0, v, ((([] : List UInt8) ++ ns.flatMap encNum) ++ is.flatMap encInt), rfl, rfl, rfl, rfl, Nat.zero_le _, by simp⟩
    · exact ⟨rfl, by repeat constructor⟩
    · repeat constructor
  rintro nX sX δX σX ⟨k, v, m, rfl, rfl, rfl, rfl, hk0, hm0⟩
  refine sw_seq ?_
  refine sw_seq ?_
  refine sl_region ?_
  refine sl_mv rfl rfl rfl ?_
  refine sl_mv rfl rfl rfl ?_
  first
    | refine sl_len rfl rfl rfl ⟨_, u_53⟩ ?_
    | refine sl_len_sl rfl rfl rfl ⟨_, u_53⟩ ?_
    | refine sl_len_w _ rfl rfl rfl ⟨_, u_53⟩ ?_
  refine sl_bin rfl rfl rfl rfl rfl ?_
  refine sl_nil ?_
  refine sw_cond rfl (fun hk => ?_) (fun hk => ?_)
  · have hk : k < ss.length := by simpa using hk
    have hml : m.length + 110 ≤ 100000000 := by
      have := flat_len (f := encText) (c := 110) (ns := ss) (fun s hs => encText_len (hss s hs)) k
      have h2 : 110 * k ≤ 110 * 20 := Nat.mul_le_mul (Nat.le_refl _) (by omega)
      rw [hm0]; simp only [List.length_append, List.length_nil]; omega
    refine sw_skip ?_
    refine sw_seq ?_
    refine sw_block ?_
    refine sa_start [] mixed ?_
    refine sa_take 0 rfl rfl (by kernel_rfl) .nil (pu_mv rfl rfl) ?_
    refine sa_take 1 rfl rfl (by kernel_rfl) .nil (pu_nc rfl rfl rfl) ?_
    first
      | refine sa_take 2 rfl rfl (by kernel_rfl) .nil (pu_fieldAddr_ptr rfl rfl fo_30_0) ?_
      | refine sa_take 2 rfl rfl (by kernel_rfl) .nil (pu_fieldAddr_rp rfl rfl fo_30_0) ?_
      | refine sa_take 2 rfl rfl (by kernel_rfl) .nil (pu_fieldAddr_ref rfl rfl fo_30_0) ?_
    refine sa_take 3 rfl rfl (by kernel_rfl) .nil (pu_mv rfl rfl) ?_
    refine sa_take 4 rfl rfl (by kernel_rfl) .nil (pu_mv rfl rfl) ?_
    refine sa_take 5 rfl rfl (by kernel_rfl) .nil (pu_indexAddr rfl rfl rfl u_53 sz_9 (by omega) (idx_map hk) rfl) ?_
    refine sa_take 6 rfl rfl (by kernel_rfl) .nil (pu_load_rp1 rfl rfl ag_9 rfl) ?_
    refine sa_one 7 (by kernel_rfl) rfl ?_
    refine sl_bs1 rfl rfl (.cons rfl .nil) u_53 sz_9 zs_9 (by decide) rfl rfl rfl rfl ?_
    refine sl_nil ⟨.nil, ?_⟩
    refine sa_one 8 (by kernel_rfl) rfl ?_
    refine sl_callf rfl rfl cal_29 (text_ok p2 v m [ss[k]] 100 (.blk p1 [.own w4 (full.map byteV)] :: .spare w4 1 :: []) (by intro n hn; rw [List.mem_singleton.mp hn]; exact hss _ (List.getElem_mem hk)) (by simp only [List.length_append, List.length_cons, List.length_nil]; omega)) ?_ ?_ ?_ (fun _ _ h => h.elim)
    · repeat constructor
    · repeat constructor
    rintro _ _ ⟨rfl, v2, rfl⟩
    refine sl_nil ⟨.nil, ?_⟩
    refine sa_done (by kernel_rfl) ?_
    refine sl_region ?_
    refine sl_mv rfl rfl rfl ?_
    first
      | refine sl_inc rfl rfl rfl rfl (by omega) ?_
      | refine sl_add rfl rfl rfl rfl (by constructor <;> omega) ?_
      | refine sl_bin rfl rfl rfl rfl rfl ?_
    refine sl_as rfl rfl rfl ?_
    refine sl_nil ?_
    have e : m ++ [ss[k]].flatMap encText = ((([] : List UInt8) ++ ns.flatMap encNum) ++ is.flatMap encInt) ++ (ss.take (k + 1)).flatMap encText := by
      rw [flat_snoc hk, hm0]; simp
    refine ⟨_, by omega, _, _, ?_, ?_, k + 1, v2, _, rfl, rfl, rfl, rfl, by omega, e⟩
    · exact ⟨rfl, by repeat constructor⟩
    · repeat constructor
  have hk : k = ss.length := by have h9 : ¬ k < ss.length := (by simpa using hk); omega
  subst hk
  rw [List.take_length] at hm0
  subst hm0
  refine sw_exit ?_
  refine sw_seq ?_
  refine sw_seq ?_
  refine sl_region ?_
  refine sl_as rfl rfl rfl ?_
  refine sl_nil ?_
  refine sw_block ?_
  refine sw_loopw (fun nX sX δX σX => ∃ (k : Nat) (v : Value) (m : List UInt8), (bs.length - k) = nX ∧ sX = ⟨141, (.cons 0 (.val (.list (ns.map u64V))) (.cons 1 (.val (.list (is.map i64V))) (.cons 2 (.val (.list (ss.map strV))) (.cons 3 (.val (.list (bs.map boolV))) (.cons 9 (.ptr p1 0) (.cons 10 (.ptr p2 0) (.cons 15 (.val (.int .i64 (k : Int))) .nil)))))))⟩ ∧ δX = [] ∧ σX = .blk p2 [.own v (m.map byteV)] :: .spare v 1 :: .blk p1 [.own w4 (full.map byteV)] :: .spare w4 1 :: [] ∧ (k ≤ bs.length) ∧ (m = (((([] : List UInt8) ++ ns.flatMap encNum) ++ is.flatMap encInt) ++ ss.flatMap encText) ++ (bs.take k).flatMap encBool)) ?_ ?_
  · refine ⟨_, _, _, ?_, ?_, 0, v, (((([] : List UInt8) ++ ns.flatMap encNum) ++ is.flatMap encInt) ++ ss.flatMap encText), rfl, rfl, rfl, rfl, Nat.zero_le _, by simp⟩
    · exact ⟨rfl, by repeat constructor⟩
    · repeat constructor
  rintro nX sX δX σX ⟨k, v, m, rfl, rfl, rfl, rfl, hk0, hm0⟩
  refine sw_seq ?_
  refine sw_seq ?_
  refine sl_region ?_
  refine sl_mv rfl rfl rfl ?_
  refine sl_mv rfl rfl rfl ?_
  first
    | refine sl_len rfl rfl rfl ⟨_, u_54⟩ ?_
    | refine sl_len_sl rfl rfl rfl ⟨_, u_54⟩ ?_
    | refine sl_len_w _ rfl rfl rfl ⟨_, u_54⟩ ?_
  refine sl_bin rfl rfl rfl rfl rfl ?_
  refine sl_nil ?_
  refine sw_cond rfl (fun hk => ?_) (fun hk => ?_)
  · have hk : k < bs.length := by simpa using hk
    have hml : m.length + 10 ≤ 100000000 := by
      have := flat_len (f := encBool) (c := 10) (ns := bs) (fun b hb => encBool_len b) k
      have h2 : 10 * k ≤ 10 * 20 := Nat.mul_le_mul (Nat.le_refl _) (by omega)
      rw [hm0]; simp only [List.length_append, List.length_nil]; omega
    refine sw_skip ?_
    refine sw_seq ?_
    refine sw_block ?_
    refine sa_start [] mixed ?_
    refine sa_take 0 rfl rfl (by kernel_rfl) .nil (pu_mv rfl rfl) ?_
    refine sa_take 1 rfl rfl (by kernel_rfl) .nil (pu_nc rfl rfl rfl) ?_
    first
      | refine sa_take 2 rfl rfl (by kernel_rfl) .nil (pu_fieldAddr_ptr rfl rfl fo_30_0) ?_
      | refine sa_take 2 rfl rfl (by kernel_rfl) .nil (pu_fieldAddr_rp rfl rfl fo_30_0) ?_
      | refine sa_take 2 rfl rfl (by kernel_rfl) .nil (pu_fieldAddr_ref rfl rfl fo_30_0) ?_
    refine sa_take 3 rfl rfl (by kernel_rfl) .nil (pu_mv rfl rfl) ?_
    refine sa_take 4 rfl rfl (by kernel_rfl) .nil (pu_mv rfl rfl) ?_
    refine sa_take 5 rfl rfl (by kernel_rfl) .nil (pu_indexAddr rfl rfl rfl u_54 sz_4 (by omega) (idx_map hk) rfl) ?_
    refine sa_take 6 rfl rfl (by kernel_rfl) .nil (pu_load_rp1 rfl rfl ag_4 rfl) ?_
    refine sa_one 7 (by kernel_rfl) rfl ?_
    refine sl_bs1 rfl rfl (.cons rfl .nil) u_54 sz_4 zs_4 (by decide) rfl rfl rfl rfl ?_
    refine sl_nil ⟨.nil, ?_⟩
    refine sa_one 8 (by kernel_rfl) rfl ?_
    refine sl_callf rfl rfl cal_30 (bool_ok p2 v m [bs[k]] (.blk p1 [.own w4 (full.map byteV)] :: .spare w4 1 :: []) (by simp only [List.length_append, List.length_cons, List.length_nil]; omega)) ?_ ?_ ?_ (fun _ _ h => h.elim)
    · repeat constructor
    · repeat constructor
    rintro _ _ ⟨rfl, v2, rfl⟩
    refine sl_nil ⟨.nil, ?_⟩
    refine sa_done (by kernel_rfl) ?_
    refine sl_region ?_
    refine sl_mv rfl rfl rfl ?_
    first
      | refine sl_inc rfl rfl rfl rfl (by omega) ?_
      | refine sl_add rfl rfl rfl rfl (by constructor <;> omega) ?_
      | refine sl_bin rfl rfl rfl rfl rfl ?_
    refine sl_as rfl rfl rfl ?_
    refine sl_nil ?_
    have e : m ++ [bs[k]].flatMap encBool = (((([] : List UInt8) ++ ns.flatMap encNum) ++ is.flatMap encInt) ++ ss.flatMap encText) ++ (bs.take (k + 1)).flatMap encBool := by
      rw [flat_snoc hk, hm0]; simp
    refine ⟨_, by omega, _, _, ?_, ?_, k + 1, v2, _, rfl, rfl, rfl, rfl, by omega, e⟩
    · exact ⟨rfl, by repeat constructor⟩
    · repeat constructor
  have hk : k = bs.length := by have h9 : ¬ k < bs.length := (by simpa using hk); omega
  subst hk
  rw [List.take_length] at hm0
  subst hm0
  rw [← hfull]
  have hfl : full.length ≤ 100000000 := by
    rw [hfull]; simp only [List.length_append, List.length_nil]; omega
  refine sw_exit ?_
  refine sw_seq ?_
  refine sa_start [] mixed ?_
  refine sa_take 0 rfl rfl (by kernel_rfl) .nil (pu_mv rfl rfl) ?_
  refine sa_take 1 rfl rfl (by kernel_rfl) .nil (pu_nc rfl rfl rfl) ?_
  first
    | refine sa_take 2 rfl rfl (by kernel_rfl) .nil (pu_fieldAddr_ptr rfl rfl fo_30_0) ?_
    | refine sa_take 2 rfl rfl (by kernel_rfl) .nil (pu_fieldAddr_rp rfl rfl fo_30_0) ?_
    | refine sa_take 2 rfl rfl (by kernel_rfl) .nil (pu_fieldAddr_ref rfl rfl fo_30_0) ?_
  refine sa_take 5 rfl rfl (by kernel_rfl) .nil (pu_mv rfl rfl) ?_
  refine sa_take 6 rfl rfl (by kernel_rfl) .nil (pu_nc rfl rfl rfl) ?_
  first
    | refine sa_take 7 rfl rfl (by kernel_rfl) .nil (pu_fieldAddr_ptr rfl rfl fo_30_0) ?_
    | refine sa_take 7 rfl rfl (by kernel_rfl) .nil (pu_fieldAddr_rp rfl rfl fo_30_0) ?_
    | refine sa_take 7 rfl rfl (by kernel_rfl) .nil (pu_fieldAddr_ref rfl rfl fo_30_0) ?_
  refine sa_one 3 (by kernel_rfl) rfl ?_
  refine sl_callf rfl rfl cal_19 (bytes_ok p1 w4 full (.spare w4 1 :: .blk p2 [.own v (full.map byteV)] :: []) hfl) ?_ ?_ ?_ (fun _ _ h => h.elim)
  · repeat constructor
  · repeat constructor
  rintro _ _ ⟨rfl, rfl⟩
  refine sl_nil ⟨.nil, ?_⟩
  refine sa_take 4 rfl rfl (by kernel_rfl) .nil (pu_bytes_str rfl rfl u_26 u_5 u_9) ?_
  refine sa_one 8 (by kernel_rfl) rfl ?_
  refine sl_callf rfl rfl cal_19 (bytes_ok p2 v full [] hfl) ?_ ?_ ?_ (fun _ _ h => h.elim)
  · repeat constructor
  · repeat constructor
  rintro _ _ ⟨rfl, rfl⟩
  refine sl_nil ⟨.nil, ?_⟩
  refine sa_take 9 rfl rfl (by kernel_rfl) .nil (pu_bytes_str rfl rfl u_26 u_5 u_9) ?_
  refine sa_take 10 rfl rfl (by kernel_rfl) .nil (pu_str rfl rfl rfl rfl) ?_
  refine sa_one 11 (by kernel_rfl) rfl ?_
  refine sl_as rfl rfl rfl ?_
  refine sl_nil ⟨.nil, ?_⟩
  refine sa_done (by kernel_rfl) ?_
  refine sw_ret ⟨rfl, _, _, res_one rfl rfl, ?_, ⟨congrArg (fun z => D.val (.bool z)) (beq_self_eq_true full), rfl⟩⟩
  repeat constructor

end Go.Proofs.Ytioechdfghglhaa

/- Walks: printed by a program of this session out of its script CodeG. -/
namespace Go.Proofs.Ytioechdfghglhaa
set_option linter.unusedVariables false
set_option linter.unusedSimpArgs false
set_option maxRecDepth 4000
set_option maxHeartbeats 4000000
open Go Go.RowKit SL


theorem rem_wrap {m : Int} : D.val (.int .i64 m) = .val (i64V m) := rfl

theorem place_ok (a n : Int) (σ : List Chunk) (hn : 0 < n) (hb : n ≤ 100000000) : FSpec Try.prog 31 [.val (i64V a), .val (i64V n)] σ (fun d σ' => d = .val (i64V (a % n)) ∧ σ' = σ) := by
  have hlt := Int.tmod_lt_of_pos a hn
  have hgt : -n < a.tmod n := by
    have h3 : a.tmod n = -((-a).tmod n) := by rw [Int.neg_tmod, Int.neg_neg]
    have h4 := Int.tmod_lt_of_pos (-a) hn
    omega
  refine spec_of_sw Try.func31 rfl ?_
  refine sw_seq ?_
  refine sl_region ?_
  refine sl_as rfl rfl rfl ?_
  refine sl_nil ?_
  refine sw_seq ?_
  refine sl_region ?_
  refine sl_mv rfl rfl rfl ?_
  refine sl_mv rfl rfl rfl ?_
  refine sl_rem rfl rfl rfl rfl (by omega) ?_
  refine sl_as rfl rfl rfl ?_
  refine sl_nil ?_
  refine sw_seq ?_
  refine sw_seq ?_
  refine sl_region ?_
  refine sl_mv rfl rfl rfl ?_
  refine sl_bin rfl rfl rfl rfl rfl ?_
  refine sl_nil ?_
  refine sw_cond rfl (fun h => ?_) (fun h => ?_)
  · have h : a.tmod n < 0 := of_decide_eq_true h
    refine sl_region ?_
    refine sl_mv rfl rfl rfl ?_
    refine sl_mv rfl rfl rfl ?_
    first
      | refine sl_inc rfl rfl rfl rfl (by omega) ?_
      | refine sl_add rfl rfl rfl rfl (by constructor <;> omega) ?_
      | refine sl_bin rfl rfl rfl rfl rfl ?_
    refine sl_set 12 (.val (i64V (a % n))) (congrArg (fun z => D.val (.int .i64 z)) (place_neg hn h)) ?_
    refine sl_as rfl rfl rfl ?_
    refine sl_nil ?_
    refine sw_seq ?_
    refine sl_region ?_
    refine sl_mv rfl rfl rfl ?_
    refine sl_as rfl rfl rfl ?_
    refine sl_nil ?_
    refine sw_ret ⟨rfl, _, _, res_one rfl rfl, ?_, ⟨rfl, rfl⟩⟩
    repeat constructor
  have h : ¬ a.tmod n < 0 := of_decide_eq_false h
  refine sw_set 0 (.val (i64V (a % n))) (congrArg (fun z => D.val (.int .i64 z)) (place_pos hn h)) ?_
  refine sw_skip ?_
  refine sw_seq ?_
  refine sl_region ?_
  refine sl_mv rfl rfl rfl ?_
  refine sl_as rfl rfl rfl ?_
  refine sl_nil ?_
  refine sw_ret ⟨rfl, _, _, res_one rfl rfl, ?_, ⟨rfl, rfl⟩⟩
  repeat constructor

theorem len_ne_zero {m : List UInt8} (h : 0 < m.length) : ((((m.map byteV).length : Nat) : Int) == 0) = false := by
  rw [List.length_map, beq_eq_false_iff_ne]; omega

theorem ne_same {x y : List UInt8} (h : x = y) : (!(x == y)) = false := by subst h; simp

theorem encText_len2 {s : List UInt8} (h : s.length ≤ 200) : (encText s).length ≤ 210 := by
  have := encNum_len (n := s.length) (by omega)
  unfold encText; rw [List.length_append]; omega

/-- CodeCuts. -/
theorem codeCuts_ok (ss : List (List UInt8)) (at_ : Int) : FSpec Try.prog 7 [.val (.list (ss.map strV)), .val (i64V at_)] [] (fun d σ' => d = .val (.bool true) ∧ σ' = []) := by
  refine spec_of_sw Try.func7 rfl ?_
  refine sw_seq ?_
  refine sl_region ?_
  refine sl_as rfl rfl rfl ?_
  refine sl_nil ?_
  refine sw_seq ?_
  refine sw_seq ?_
  refine sl_region ?_
  refine sl_callf rfl rfl cal_15 (known2_ok []) ?_ ?_ ?_ (fun _ _ h => h.elim)
  · repeat constructor
  · repeat constructor
  rintro _ _ ⟨rfl, rfl⟩
  refine sl_not rfl rfl rfl ?_
  refine sl_nil ?_
  refine sw_false rfl (rfl) ?_
  refine sw_skip ?_
  refine sw_seq ?_
  refine sw_seq ?_
  refine sl_region ?_
  refine sl_mv rfl rfl rfl ?_
  first
    | refine sl_len rfl rfl rfl ⟨_, u_53⟩ ?_
    | refine sl_len_sl rfl rfl rfl ⟨_, u_53⟩ ?_
    | refine sl_len_w _ rfl rfl rfl ⟨_, u_53⟩ ?_
  refine sl_bin rfl rfl rfl rfl rfl ?_
  refine sl_mv rfl rfl rfl ?_
  refine sl_case_at 18 rfl (fun h1 => ?_) (fun h1 => ?_)
  · refine sl_guard_n rfl rfl rfl h1 ?_
    refine sl_guard_n rfl rfl rfl h1 ?_
    refine sl_guard_n rfl rfl rfl h1 ?_
    refine sl_pk_t rfl rfl rfl h1 rfl ?_
    refine sl_nil ?_
    refine sw_true rfl (rfl) ?_
    refine sw_seq ?_
    refine sl_region ?_
    refine sl_as rfl rfl rfl ?_
    refine sl_nil ?_
    refine sw_ret ⟨rfl, _, _, res_one rfl rfl, ?_, ⟨rfl, rfl⟩⟩
    repeat constructor
  refine sl_guard_y rfl rfl rfl h1 ?_
  refine sl_mv rfl rfl rfl ?_
  refine sl_guard_y rfl rfl rfl h1 ?_
  first
    | refine sl_len rfl rfl rfl ⟨_, u_53⟩ ?_
    | refine sl_len_sl rfl rfl rfl ⟨_, u_53⟩ ?_
    | refine sl_len_w _ rfl rfl rfl ⟨_, u_53⟩ ?_
  refine sl_guard_y rfl rfl rfl h1 ?_
  refine sl_bin rfl rfl rfl rfl rfl ?_
  refine sl_pk_f rfl rfl rfl h1 rfl ?_
  refine sl_nil ?_
  refine sw_cond rfl (fun h2 => ?_) (fun h2 => ?_)
  · refine sw_seq ?_
    refine sl_region ?_
    refine sl_as rfl rfl rfl ?_
    refine sl_nil ?_
    refine sw_ret ⟨rfl, _, _, res_one rfl rfl, ?_, ⟨rfl, rfl⟩⟩
    repeat constructor
  have h1 : 0 < ss.length := by
    rw [List.length_map, beq_eq_false_iff_ne] at h1; omega
  have h2 : ss.length ≤ 10 := by have := of_decide_eq_false h2; simp only [List.length_map] at this; omega
  refine sw_skip ?_
  refine sw_seq ?_
  refine sl_region ?_
  refine sl_callf rfl rfl cal_16 (newWriter_ok []) ?_ ?_ ?_ (fun _ _ h => h.elim)
  · repeat constructor
  · repeat constructor
  rintro _ _ ⟨p, w0, rfl, rfl⟩
  refine sl_as rfl rfl rfl ?_
  refine sl_nil ?_
  refine sw_seq ?_
  refine sl_region ?_
  refine sl_as rfl rfl rfl ?_
  refine sl_nil ?_
  refine sw_seq ?_
  refine sw_seq ?_
  refine sl_region ?_
  refine sl_as rfl rfl rfl ?_
  refine sl_own (t := 6) (sz := 1) rfl (fun e0 => ?_)
  refine sl_nil ?_
  refine sw_block ?_
  refine sw_loopw (fun nX sX δX σX => ∃ (k : Nat) (v : Value) (e : Value) (m : List UInt8) (es : List Int), (ss.length - k) = nX ∧ sX = ⟨120, (.cons 0 (.val (.list (ss.map strV))) (.cons 1 (.val (i64V at_)) (.cons 5 (.ptr p 0) (.cons 6 (.own e (es.map i64V)) (.cons 7 (.val (.int .i64 (k : Int))) .nil)))))⟩ ∧ δX = [] ∧ σX = .blk p [.own v (m.map byteV)] :: .spare v 1 :: .spare e 1 :: [] ∧ (k ≤ ss.length) ∧ (m = ([] : List UInt8) ++ (ss.take k).flatMap encText) ∧ (es = endsOf ss k) ∧ (∀ s ∈ ss.take k, s.length ≤ 200)) ?_ ?_
  · refine ⟨_, _, _, ?_, ?_, 0, w0, e0, [], [], rfl, rfl, rfl, rfl, Nat.zero_le _, by simp, rfl, by simp⟩
    · exact ⟨rfl, by repeat constructor⟩
    · repeat constructor
  rintro nX sX δX σX ⟨k, v, e, m, es, rfl, rfl, rfl, rfl, hk0, hm0, he0, hss⟩
  refine sw_seq ?_
  refine sw_seq ?_
  refine sl_region ?_
  refine sl_mv rfl rfl rfl ?_
  refine sl_mv rfl rfl rfl ?_
  first
    | refine sl_len rfl rfl rfl ⟨_, u_53⟩ ?_
    | refine sl_len_sl rfl rfl rfl ⟨_, u_53⟩ ?_
    | refine sl_len_w _ rfl rfl rfl ⟨_, u_53⟩ ?_
  refine sl_bin rfl rfl rfl rfl rfl ?_
  refine sl_nil ?_
  refine sw_cond rfl (fun hk => ?_) (fun hk => ?_)
  · have hk : k < ss.length := by simpa using hk
    refine sw_skip ?_
    refine sw_seq ?_
    refine sw_block ?_
    refine sw_seq ?_
    refine sw_seq ?_
    refine sl_region ?_
    refine sl_mv rfl rfl rfl ?_
    refine sl_mv rfl rfl rfl ?_
    refine sl_indexAddr' rfl rfl rfl rfl u_53 sz_9 (by omega) (idx_map hk) rfl ?_
    first
      | refine sl_load_rp1 rfl rfl rfl ag_9 rfl ?_
      | refine sl_load_blk1 rfl rfl rfl ag_9 (by repeat constructor) rfl ?_
    refine sl_len_str rfl rfl rfl u_9 ?_
    refine sl_bin rfl rfl rfl rfl rfl ?_
    refine sl_nil ?_
    refine sw_cond rfl (fun hlong => ?_) (fun hlong => ?_)
    · refine sw_seq ?_
      refine sl_region ?_
      refine sl_as rfl rfl rfl ?_
      refine sl_nil ?_
      refine sw_ret ⟨rfl, _, _, res_one rfl rfl, ?_, ⟨rfl, rfl⟩⟩
      repeat constructor
    have hs1 : ss[k].length ≤ 200 := by have := of_decide_eq_false hlong; omega
    have hss1 := all_take_snoc hss hk hs1
    have hml : m.length + 210 ≤ 100000000 := by
      have := flat_all (f := encText) (c := 210) (ns := ss.take k) (fun s hs => encText_len2 (hss s hs))
      have h3 : (ss.take k).length ≤ 10 := by rw [List.length_take]; omega
      rw [hm0]; simp only [List.length_append, List.length_nil]; omega
    have hes : es.length ≤ 10 := by rw [he0, endsOf_len]; omega
    refine sw_skip ?_
    refine sw_seq ?_
    refine sa_start [] mixed ?_
    refine sa_take 0 rfl rfl (by kernel_rfl) .nil (pu_mv rfl rfl) ?_
    refine sa_take 1 rfl rfl (by kernel_rfl) .nil (pu_nc rfl rfl rfl) ?_
    first
      | refine sa_take 2 rfl rfl (by kernel_rfl) .nil (pu_fieldAddr_ptr rfl rfl fo_30_0) ?_
      | refine sa_take 2 rfl rfl (by kernel_rfl) .nil (pu_fieldAddr_rp rfl rfl fo_30_0) ?_
      | refine sa_take 2 rfl rfl (by kernel_rfl) .nil (pu_fieldAddr_ref rfl rfl fo_30_0) ?_
    refine sa_take 3 rfl rfl (by kernel_rfl) .nil (pu_mv rfl rfl) ?_
    refine sa_take 4 rfl rfl (by kernel_rfl) .nil (pu_mv rfl rfl) ?_
    refine sa_take 5 rfl rfl (by kernel_rfl) .nil (pu_indexAddr rfl rfl rfl u_53 sz_9 (by omega) (idx_map hk) rfl) ?_
    refine sa_take 6 rfl rfl (by kernel_rfl) .nil (pu_load_rp1 rfl rfl ag_9 rfl) ?_
    refine sa_one 7 (by kernel_rfl) rfl ?_
    refine sl_bs1 rfl rfl (.cons rfl .nil) u_53 sz_9 zs_9 (by decide) rfl rfl rfl rfl ?_
    refine sl_nil ⟨.nil, ?_⟩
    refine sa_one 8 (by kernel_rfl) rfl ?_
    refine sl_callf rfl rfl cal_29 (text_ok p v m [ss[k]] 200 (.spare e 1 :: []) (by intro n hn; rw [List.mem_singleton.mp hn]; exact hs1) (by simp only [List.length_cons, List.length_nil]; omega)) ?_ ?_ ?_ (fun _ _ h => h.elim)
    · repeat constructor
    · repeat constructor
    rintro _ _ ⟨rfl, v2, rfl⟩
    refine sl_nil ⟨.nil, ?_⟩
    refine sa_done (by kernel_rfl) ?_
    refine sl_region ?_
    refine sl_mv rfl rfl rfl ?_
    refine sl_mv rfl rfl rfl ?_
    refine sl_nc rfl rfl rfl rfl ?_
    first
      | refine sl_fieldAddr_ptr rfl rfl rfl fo_30_0 ?_
      | refine sl_fieldAddr_rp rfl rfl rfl fo_30_0 ?_
      | refine sl_fieldAddr_ref rfl rfl rfl fo_30_0 ?_
    have e1 : m ++ [ss[k]].flatMap encText = ([] : List UInt8) ++ (ss.take (k + 1)).flatMap encText := by
      rw [flat_snoc hk, hm0]; simp
    have e2 : (m ++ [ss[k]].flatMap encText).length ≤ 100000000 := by
      have := encText_len2 hs1
      simp only [List.length_append, List.flatMap_cons, List.flatMap_nil, List.length_nil]; omega
    refine sl_callf rfl rfl cal_19 (bytes_ok p v2 (m ++ [ss[k]].flatMap encText) (.spare v2 1 :: .spare e 1 :: []) e2) ?_ ?_ ?_ (fun _ _ h => h.elim)
    · repeat constructor
    · repeat constructor
    rintro _ _ ⟨rfl, rfl⟩
    first
      | refine sl_len rfl rfl rfl ⟨_, u_26⟩ ?_
      | refine sl_len_sl rfl rfl rfl ⟨_, u_26⟩ ?_
      | refine sl_len_w _ rfl rfl rfl ⟨_, u_26⟩ ?_
    refine sl_set 50 (.val (i64V (cutE ss (k + 1) : Nat))) (by show D.val (.int .i64 _) = _; rw [List.length_map, e1, List.nil_append]; rfl) ?_
    refine sl_bs1 rfl rfl (.cons rfl .nil) u_59 sz_3 zs_3 (by decide) rfl rfl rfl rfl ?_
    refine sl_appp rfl rfl rfl rfl u_59 ⟨_, u_59, rfl⟩ el_3 (by repeat constructor) (by repeat constructor) (by simp only [List.length_map, List.length_cons, List.length_nil]; omega) ((by rw [he0, endsOf_succ, List.map_append]; rfl : _ = (endsOf ss (k + 1)).map i64V)) (by repeat constructor) (fun v52 => ?_)
    refine sl_as rfl rfl rfl ?_
    refine sl_nil ?_
    refine sl_region ?_
    refine sl_mv rfl rfl rfl ?_
    first
      | refine sl_inc rfl rfl rfl rfl (by omega) ?_
      | refine sl_add rfl rfl rfl rfl (by constructor <;> omega) ?_
      | refine sl_bin rfl rfl rfl rfl rfl ?_
    refine sl_as rfl rfl rfl ?_
    refine sl_nil ?_
    refine ⟨_, by omega, _, _, ?_, ?_, k + 1, v2, v52, m ++ [ss[k]].flatMap encText, endsOf ss (k + 1), rfl, rfl, rfl, rfl, by omega, e1, rfl, hss1⟩
    · exact ⟨rfl, by repeat constructor⟩
    · repeat constructor
  have hk : k = ss.length := by have h9 : ¬ k < ss.length := (by simpa using hk); omega
  subst hk
  rw [List.take_length] at hm0 hss
  rw [List.nil_append] at hm0
  subst hm0
  subst he0
  have hfl := flat_all (f := encText) (c := 210) (ns := ss) (fun s hs => encText_len2 (hss s hs))
  have hfp := full_pos h1
  have hfull : (ss.flatMap encText).length ≤ 2100 := by omega
  refine sw_exit ?_
  refine sw_seq ?_
  refine sl_region ?_
  refine sl_mv rfl rfl rfl ?_
  refine sl_nc rfl rfl rfl rfl ?_
  first
    | refine sl_fieldAddr_ptr rfl rfl rfl fo_30_0 ?_
    | refine sl_fieldAddr_rp rfl rfl rfl fo_30_0 ?_
    | refine sl_fieldAddr_ref rfl rfl rfl fo_30_0 ?_
  refine sl_callf rfl rfl cal_19 (bytes_ok p v (ss.flatMap encText) (.spare e 1 :: []) (by omega)) ?_ ?_ ?_ (fun _ _ h => h.elim)
  · repeat constructor
  · repeat constructor
  rintro _ _ ⟨rfl, rfl⟩
  refine sl_as rfl rfl rfl ?_
  refine sl_nil ?_
  refine sw_seq ?_
  refine sw_seq ?_
  refine sl_region ?_
  refine sl_mv rfl rfl rfl ?_
  first
    | refine sl_len rfl rfl rfl ⟨_, u_26⟩ ?_
    | refine sl_len_sl rfl rfl rfl ⟨_, u_26⟩ ?_
    | refine sl_len_w _ rfl rfl rfl ⟨_, u_26⟩ ?_
  refine sl_bin rfl rfl rfl rfl rfl ?_
  refine sl_nil ?_
  refine sw_false rfl (len_ne_zero hfp) ?_
  refine sw_skip ?_
  refine sw_seq ?_
  refine sl_region ?_
  refine sl_mv rfl rfl rfl ?_
  refine sl_mv rfl rfl rfl ?_
  first
    | refine sl_len rfl rfl rfl ⟨_, u_26⟩ ?_
    | refine sl_len_sl rfl rfl rfl ⟨_, u_26⟩ ?_
    | refine sl_len_w _ rfl rfl rfl ⟨_, u_26⟩ ?_
  refine sl_set 62 (.val (i64V ((ss.flatMap encText).length : Nat))) (congrArg (fun z : Nat => D.val (.int .i64 (z : Int))) (List.length_map ..)) ?_
  refine sl_callf rfl rfl cal_31 (place_ok at_ ((ss.flatMap encText).length : Nat) (.spare e 1 :: []) (by omega) (by omega)) ?_ ?_ ?_ (fun _ _ h => h.elim)
  · repeat constructor
  · repeat constructor
  rintro _ _ ⟨rfl, rfl⟩
  obtain ⟨k, hk⟩ : ∃ k : Nat, at_ % ((ss.flatMap encText).length : Int) = (k : Int) := ⟨(at_ % ((ss.flatMap encText).length : Int)).toNat, by have := Int.emod_nonneg at_ (show ((ss.flatMap encText).length : Int) ≠ 0 by omega); omega⟩
  have hkl : k < (ss.flatMap encText).length := by have := Int.emod_lt_of_pos at_ (show (0 : Int) < ((ss.flatMap encText).length : Int) by omega); omega
  rw [hk]
  refine sl_as rfl rfl rfl ?_
  refine sl_nil ?_
  refine sw_seq ?_
  refine sl_region ?_
  refine sl_mv rfl rfl rfl ?_
  refine sl_mv rfl rfl rfl ?_
  refine sl_slice_list 0 k rfl rfl rfl u_26 sz_5 (fun x hx => (SzI.get (by repeat constructor) x hx).1) rfl ⟨_, rfl⟩ (Nat.zero_le _) (by simp only [List.length_map]; omega) ?_
  refine sl_set 66 (.val (.list (((ss.flatMap encText).take k).map byteV))) (take_bytes _ k) ?_
  refine sl_callf rfl rfl cal_18 (newReader_ok ((ss.flatMap encText).take k) (.spare e 1 :: []) (by rw [List.length_take]; omega)) ?_ ?_ ?_ (fun _ _ h => h.elim)
  · repeat constructor
  · repeat constructor
  rintro _ _ ⟨q, rfl, rfl⟩
  refine sl_as rfl rfl rfl ?_
  refine sl_nil ?_
  refine sw_seq ?_
  refine sw_seq ?_
  refine sl_region ?_
  refine sl_as rfl rfl rfl ?_
  refine sl_nil ?_
  refine sw_block ?_
  refine sw_loopw (fun nX sX δX σX => ∃ (i : Nat) (c : Chunk), (ss.length - i) = nX ∧ sX = ⟨120, (.cons 0 (.val (.list (ss.map strV))) (.cons 6 (.own e ((endsOf ss ss.length).map i64V)) (.cons 9 (.val (i64V (k : Int))) (.cons 10 (.ptr q 0) (.cons 11 (.val (.int .i64 (i : Int))) .nil)))))⟩ ∧ δX = [] ∧ σX = c :: [] ∧ (i ≤ ss.length) ∧ (Rdr q (stCut ss k i) c)) ?_ ?_
  · refine ⟨_, _, _, ?_, ?_, 0, rd q ((ss.flatMap encText).take k) false, rfl, rfl, rfl, rfl, Nat.zero_le _, by rw [stCut_zero]; exact ⟨rfl, by rw [List.length_take]; omega⟩⟩
    · exact ⟨rfl, by repeat constructor⟩
    · repeat constructor
  rintro nX sX δX σX ⟨i, c, rfl, rfl, rfl, rfl, hi0, hc⟩
  refine sw_seq ?_
  refine sw_seq ?_
  refine sl_region ?_
  refine sl_mv rfl rfl rfl ?_
  refine sl_mv rfl rfl rfl ?_
  first
    | refine sl_len rfl rfl rfl ⟨_, u_53⟩ ?_
    | refine sl_len_sl rfl rfl rfl ⟨_, u_53⟩ ?_
    | refine sl_len_w _ rfl rfl rfl ⟨_, u_53⟩ ?_
  refine sl_bin rfl rfl rfl rfl rfl ?_
  refine sl_nil ?_
  refine sw_cond rfl (fun hi => ?_) (fun hi => ?_)
  · have hi : i < ss.length := by simpa using hi
    have hsi := hss ss[i] (List.getElem_mem hi)
    have hstep := cut_step (k := k) hi (by omega)
    refine sw_skip ?_
    refine sw_seq ?_
    refine sw_block ?_
    refine sw_seq ?_
    refine sl_region ?_
    refine sl_mv rfl rfl rfl ?_
    refine sl_callf rfl rfl cal_32 (pText_ok q (stCut ss k i) c [] hc) ?_ ?_ ?_ (fun _ _ h => h.elim)
    · repeat constructor
    · repeat constructor
    rintro _ _ ⟨rfl, c2, hc2, rfl⟩
    rw [hstep] at hc2 ⊢
    refine sl_as rfl rfl rfl ?_
    refine sl_nil ?_
    refine sw_seq ?_
    refine sl_region ?_
    refine sl_mv rfl rfl rfl ?_
    refine sl_mv rfl rfl rfl ?_
    refine sl_indexAddr' rfl rfl rfl rfl u_59 sz_3 (by omega) (ends_get hi) rfl ?_
    first
      | refine sl_load_rp1 rfl rfl rfl ag_3 rfl ?_
      | refine sl_load_blk1 rfl rfl rfl ag_3 (by repeat constructor) rfl ?_
    refine sl_mv rfl rfl rfl ?_
    refine sl_bin rfl rfl rfl rfl rfl ?_
    refine sl_mv rfl rfl rfl ?_
    refine sl_case_at 82 rfl (fun hA => ?_) (fun hA => ?_)
    · have hA1 : cutE ss (i + 1) ≤ k := by have := of_decide_eq_true hA; omega
      refine sl_guard_y rfl rfl rfl hA ?_
      refine sl_mv rfl rfl rfl ?_
      refine sl_guard_y rfl rfl rfl hA ?_
      refine sl_mv rfl rfl rfl ?_
      refine sl_guard_y rfl rfl rfl hA ?_
      refine sl_mv rfl rfl rfl ?_
      refine sl_guard_y rfl rfl rfl hA ?_
      refine sl_indexAddr' rfl rfl rfl rfl u_53 sz_9 (by omega) (idx_map hi) rfl ?_
      refine sl_guard_y rfl rfl rfl hA ?_
      first
        | refine sl_load_rp1 rfl rfl rfl ag_9 rfl ?_
        | refine sl_load_blk1 rfl rfl rfl ag_9 (by repeat constructor) rfl ?_
      refine sl_guard_y rfl rfl rfl hA ?_
      refine sl_str rfl rfl rfl rfl rfl ?_
      refine sl_pk_t rfl rfl rfl hA rfl ?_
      refine sl_mv rfl rfl rfl ?_
      refine sl_guard_y rfl rfl rfl (ne_same (if_pos hA1)) ?_
      refine sl_mv rfl rfl rfl ?_
      refine sl_guard_y rfl rfl rfl (ne_same (if_pos hA1)) ?_
      refine sl_mv rfl rfl rfl ?_
      refine sl_guard_y rfl rfl rfl (ne_same (if_pos hA1)) ?_
      refine sl_indexAddr' rfl rfl rfl rfl u_59 sz_3 (by omega) (ends_get hi) rfl ?_
      refine sl_guard_y rfl rfl rfl (ne_same (if_pos hA1)) ?_
      first
        | refine sl_load_rp1 rfl rfl rfl ag_3 rfl ?_
        | refine sl_load_blk1 rfl rfl rfl ag_3 (by repeat constructor) rfl ?_
      refine sl_guard_y rfl rfl rfl (ne_same (if_pos hA1)) ?_
      refine sl_mv rfl rfl rfl ?_
      refine sl_guard_y rfl rfl rfl (ne_same (if_pos hA1)) ?_
      refine sl_bin rfl rfl rfl rfl rfl ?_
      refine sl_guard_y rfl rfl rfl (ne_same (if_pos hA1)) ?_
      refine sl_mv rfl rfl rfl ?_
      refine sl_guard_n rfl rfl rfl (decide_eq_false (by omega)) ?_
      refine sl_guard_n rfl rfl rfl (decide_eq_false (by omega)) ?_
      refine sl_guard_y rfl rfl rfl (ne_same (if_pos hA1)) ?_
      refine sl_pk_f rfl rfl rfl (decide_eq_false (by omega)) rfl ?_
      refine sl_pk_f rfl rfl rfl (ne_same (if_pos hA1)) rfl ?_
      refine sl_nil ?_
      refine sw_false rfl (rfl) ?_
      refine sw_skip ?_
      refine sl_region ?_
      refine sl_mv rfl rfl rfl ?_
      first
        | refine sl_inc rfl rfl rfl rfl (by omega) ?_
        | refine sl_add rfl rfl rfl rfl (by constructor <;> omega) ?_
        | refine sl_bin rfl rfl rfl rfl rfl ?_
      refine sl_as rfl rfl rfl ?_
      refine sl_nil ?_
      refine ⟨_, by omega, _, _, ?_, ?_, i + 1, c2, rfl, rfl, rfl, rfl, by omega, hc2⟩
      · exact ⟨rfl, by repeat constructor⟩
      · repeat constructor
    have hA1 : ¬ cutE ss (i + 1) ≤ k := by have := of_decide_eq_false hA; omega
    refine sl_guard_n rfl rfl rfl hA ?_
    refine sl_guard_n rfl rfl rfl hA ?_
    refine sl_guard_n rfl rfl rfl hA ?_
    refine sl_guard_n rfl rfl rfl hA ?_
    refine sl_guard_n rfl rfl rfl hA ?_
    refine sl_guard_n rfl rfl rfl hA ?_
    refine sl_pk_f rfl rfl rfl hA rfl ?_
    refine sl_mv rfl rfl rfl ?_
    refine sl_guard_y rfl rfl rfl (rfl) ?_
    refine sl_mv rfl rfl rfl ?_
    refine sl_guard_y rfl rfl rfl (rfl) ?_
    refine sl_mv rfl rfl rfl ?_
    refine sl_guard_y rfl rfl rfl (rfl) ?_
    refine sl_indexAddr' rfl rfl rfl rfl u_59 sz_3 (by omega) (ends_get hi) rfl ?_
    refine sl_guard_y rfl rfl rfl (rfl) ?_
    first
      | refine sl_load_rp1 rfl rfl rfl ag_3 rfl ?_
      | refine sl_load_blk1 rfl rfl rfl ag_3 (by repeat constructor) rfl ?_
    refine sl_guard_y rfl rfl rfl (rfl) ?_
    refine sl_mv rfl rfl rfl ?_
    refine sl_guard_y rfl rfl rfl (rfl) ?_
    refine sl_bin rfl rfl rfl rfl rfl ?_
    refine sl_guard_y rfl rfl rfl (rfl) ?_
    refine sl_mv rfl rfl rfl ?_
    refine sl_guard_y rfl rfl rfl (decide_eq_true (by omega)) ?_
    refine sl_mv rfl rfl rfl ?_
    refine sl_guard_y rfl rfl rfl (decide_eq_true (by omega)) ?_
    refine sl_str rfl rfl rfl rfl rfl ?_
    refine sl_guard_y rfl rfl rfl (rfl) ?_
    refine sl_pk_t rfl rfl rfl (decide_eq_true (by omega)) rfl ?_
    refine sl_pk_f rfl rfl rfl (rfl) rfl ?_
    refine sl_nil ?_
    refine sw_false rfl (ne_same (if_neg hA1)) ?_
    refine sw_skip ?_
    refine sl_region ?_
    refine sl_mv rfl rfl rfl ?_
    first
      | refine sl_inc rfl rfl rfl rfl (by omega) ?_
      | refine sl_add rfl rfl rfl rfl (by constructor <;> omega) ?_
      | refine sl_bin rfl rfl rfl rfl rfl ?_
    refine sl_as rfl rfl rfl ?_
    refine sl_nil ?_
    refine ⟨_, by omega, _, _, ?_, ?_, i + 1, c2, rfl, rfl, rfl, rfl, by omega, hc2⟩
    · exact ⟨rfl, by repeat constructor⟩
    · repeat constructor
  have hi : i = ss.length := by have h9 : ¬ i < ss.length := (by simpa using hi); omega
  subst hi
  rw [stCut_end hkl] at hc
  refine sw_exit ?_
  refine sw_seq ?_
  refine sl_region ?_
  refine sl_mv rfl rfl rfl ?_
  refine sl_callf rfl rfl cal_21 (done_ok q none c [] hc) ?_ ?_ ?_ (fun _ _ h => h.elim)
  · repeat constructor
  · repeat constructor
  rintro _ _ ⟨rfl, rfl⟩
  refine sl_bin rfl rfl rfl rfl rfl ?_
  refine sl_mv rfl rfl rfl ?_
  refine sl_guard_y rfl rfl rfl (rfl) ?_
  refine sl_mv rfl rfl rfl ?_
  refine sl_guard_y rfl rfl rfl (rfl) ?_
  refine sl_callf rfl rfl cal_33 (pNum_ok q none c [] hc) ?_ ?_ ?_ (fun _ _ h => h.elim)
  · repeat constructor
  · repeat constructor
  rintro _ _ ⟨rfl, c2, hc2, rfl⟩
  refine sl_guard_y rfl rfl rfl (rfl) ?_
  refine sl_bin rfl rfl rfl rfl rfl ?_
  refine sl_pk_t rfl rfl rfl (rfl) rfl ?_
  refine sl_mv rfl rfl rfl ?_
  refine sl_guard_y rfl rfl rfl (rfl) ?_
  refine sl_mv rfl rfl rfl ?_
  refine sl_guard_y rfl rfl rfl (rfl) ?_
  refine sl_callf rfl rfl cal_20 (pInt_ok q none c2 [] hc2) ?_ ?_ ?_ (fun _ _ h => h.elim)
  · repeat constructor
  · repeat constructor
  rintro _ _ ⟨rfl, c3, hc3, rfl⟩
  refine sl_guard_y rfl rfl rfl (rfl) ?_
  refine sl_bin rfl rfl rfl rfl rfl ?_
  refine sl_pk_t rfl rfl rfl (rfl) rfl ?_
  refine sl_mv rfl rfl rfl ?_
  refine sl_guard_y rfl rfl rfl (rfl) ?_
  refine sl_mv rfl rfl rfl ?_
  refine sl_guard_y rfl rfl rfl (rfl) ?_
  refine sl_callf rfl rfl cal_34 (pBool_ok q none c3 [] hc3) ?_ ?_ ?_ (fun _ _ h => h.elim)
  · repeat constructor
  · repeat constructor
  rintro _ _ ⟨rfl, c4, hc4, rfl⟩
  refine sl_guard_y rfl rfl rfl (rfl) ?_
  refine sl_not rfl rfl rfl ?_
  refine sl_pk_t rfl rfl rfl (rfl) rfl ?_
  refine sl_as rfl rfl rfl ?_
  refine sl_nil ?_
  refine sw_ret ⟨rfl, _, _, res_one rfl rfl, ?_, ⟨rfl, rfl⟩⟩
  repeat constructor

end Go.Proofs.Ytioechdfghglhaa

/- Walks: printed by a program of this session out of its script CodeH. -/
namespace Go.Proofs.Ytioechdfghglhaa
set_option linter.unusedVariables false
set_option linter.unusedSimpArgs false
set_option maxRecDepth 4000
set_option maxHeartbeats 4000000
open Go Go.RowKit SL


/-- ival writes an interval. -/
theorem wival_ok (p : Nat) (v : Value) (l : List UInt8) (i : Ivl) (σ : List Chunk) (hi : IvlOk i) (hl : l.length + 30 ≤ 100000000) :
    FSpec Try.prog 81 [.ptr p 0, .val (ivlV i)] (.blk p [.own v (l.map byteV)] :: .spare v 1 :: σ)
      (fun d σ' => d = .tup [] ∧ ∃ v', σ' = .blk p [.own v' ((l ++ encIval i).map byteV)] :: .spare v' 1 :: σ) := by
  refine spec_of_sw Try.func81 rfl ?_
  refine sw_seq ?_
  refine sl_region ?_
  refine sl_bx_imm rfl rfl rfl rfl rfl ?_
  refine sl_nil ?_
  refine sw_seq ?_
  refine sl_region ?_
  refine sl_mv rfl rfl rfl ?_
  first
    | refine sl_fieldAddr_ptr rfl rfl rfl fo_69_0 ?_
    | refine sl_fieldAddr_rp rfl rfl rfl fo_69_0 ?_
    | refine sl_fieldAddr_ref rfl rfl rfl fo_69_0 ?_
  first
    | refine sl_load_rp1 rfl rfl rfl ag_4 rfl ?_
    | refine sl_load_blk1 rfl rfl rfl ag_4 (by repeat constructor) rfl ?_
  refine sl_bs1 rfl rfl (.cons rfl .nil) u_54 sz_4 zs_4 (by decide) rfl rfl rfl rfl ?_
  refine sl_callf rfl rfl cal_30 (bool_ok p v l [i.some] σ (by simp only [List.length_cons, List.length_nil]; omega)) ?_ ?_ ?_ (fun _ _ h => h.elim)
  · repeat constructor
  · repeat constructor
  rintro _ _ ⟨rfl, v2, rfl⟩
  have e1 : l ++ [i.some].flatMap encBool = l ++ encBool i.some := by simp
  rw [e1]
  have hb := encBool_len1 i.some
  refine sl_nil ?_
  refine sw_seq ?_
  refine sl_region ?_
  first
    | refine sl_fieldAddr_ptr rfl rfl rfl fo_69_0 ?_
    | refine sl_fieldAddr_rp rfl rfl rfl fo_69_0 ?_
    | refine sl_fieldAddr_ref rfl rfl rfl fo_69_0 ?_
  first
    | refine sl_load_rp1 rfl rfl rfl ag_4 rfl ?_
    | refine sl_load_blk1 rfl rfl rfl ag_4 (by repeat constructor) rfl ?_
  refine sl_nil ?_
  refine sw_cond rfl (fun h => ?_) (fun h => ?_)
  · refine sl_region ?_
    refine sl_mv rfl rfl rfl ?_
    first
      | refine sl_fieldAddr_ptr rfl rfl rfl fo_69_1 ?_
      | refine sl_fieldAddr_rp rfl rfl rfl fo_69_1 ?_
      | refine sl_fieldAddr_ref rfl rfl rfl fo_69_1 ?_
    first
      | refine sl_load_rp1 rfl rfl rfl ag_2 rfl ?_
      | refine sl_load_blk1 rfl rfl rfl ag_2 (by repeat constructor) rfl ?_
    first
      | refine sl_fieldAddr_ptr rfl rfl rfl fo_69_2 ?_
      | refine sl_fieldAddr_rp rfl rfl rfl fo_69_2 ?_
      | refine sl_fieldAddr_ref rfl rfl rfl fo_69_2 ?_
    first
      | refine sl_load_rp1 rfl rfl rfl ag_2 rfl ?_
      | refine sl_load_blk1 rfl rfl rfl ag_2 (by repeat constructor) rfl ?_
    refine sl_bs1 rfl rfl (.cons rfl (.cons rfl .nil)) u_52 sz_2 zs_2 (by decide) rfl rfl rfl rfl ?_
    refine sl_callf rfl rfl cal_17 (int_ok p v2 (l ++ encBool i.some) [i.lo, i.hi] σ (by intro n hn; simp at hn; rcases hn with rfl | rfl; exact hi.1; exact hi.2) (by simp only [List.length_append, List.length_cons, List.length_nil]; omega)) ?_ ?_ ?_ (fun _ _ h => h.elim)
    · repeat constructor
    · repeat constructor
    rintro _ _ ⟨rfl, v3, rfl⟩
    have e2 : l ++ encBool i.some ++ [i.lo, i.hi].flatMap encInt = l ++ encIval i := by
      unfold encIval; rw [if_pos h]; simp
    rw [e2]
    refine sl_nil ?_
    refine ⟨rfl, _, _, res_none rfl, ?_, ⟨rfl, v3, rfl⟩⟩
    repeat constructor
  have e2 : l ++ encBool i.some = l ++ encIval i := by
    unfold encIval; rw [if_neg (by rw [show i.some = false from h]; simp)]; simp
  rw [e2]
  refine sw_skip ?_
  refine ⟨rfl, _, _, res_none rfl, ?_, ⟨rfl, v2, rfl⟩⟩
  repeat constructor

/-- Writer.Summary writes summaries. -/
theorem wsumm_ok (p : Nat) (v : Value) (l : List UInt8) (ss : List Smy) (σ : List Chunk) (hok : ∀ s ∈ ss, SmyOk s) (hlt : ∀ s ∈ ss, SmyLight s) (hl : l.length + 1100 * ss.length ≤ 100000000) :
    FSpec Try.prog 37 [.ptr p 0, .val (.list (ss.map smyV))] (.blk p [.own v (l.map byteV)] :: .spare v 1 :: σ)
      (fun d σ' => d = .tup [] ∧ ∃ v', σ' = .blk p [.own v' ((l ++ ss.flatMap encSumm).map byteV)] :: .spare v' 1 :: σ) := by
  refine spec_of_sw Try.func37 rfl ?_
  refine sw_seq ?_
  refine sl_region ?_
  refine sl_mv rfl rfl rfl ?_
  first
    | refine sl_len rfl rfl rfl ⟨_, u_124⟩ ?_
    | refine sl_len_sl rfl rfl rfl ⟨_, u_124⟩ ?_
    | refine sl_len_w _ rfl rfl rfl ⟨_, u_124⟩ ?_
  refine sl_mv rfl rfl rfl ?_
  refine sl_nil ?_
  refine sw_block ?_
  refine sw_set 11 (.val (.int .i64 (ss.length : Int))) (len_eq (List.length_map ..)) ?_
  refine sw_loopw (fun nX sX δX σX => ∃ (k : Nat) (v : Value) (m : List UInt8), (ss.length - k) = nX ∧ sX = ⟨86, (.cons 0 (.ptr p 0) (.cons 10 (.val (.list (ss.map smyV))) (.cons 11 (.val (.int .i64 (ss.length : Int))) (.cons 12 (.val (.int .i64 (k : Int))) .nil))))⟩ ∧ δX = [] ∧ σX = .blk p [.own v (m.map byteV)] :: .spare v 1 :: σ ∧ (k ≤ ss.length) ∧ (m = l ++ (ss.take k).flatMap encSumm)) ?_ ?_
  · refine ⟨_, _, _, ?_, ?_, 0, v, l, rfl, rfl, rfl, rfl, Nat.zero_le _, by simp⟩
    · exact ⟨rfl, by repeat constructor⟩
    · repeat constructor
  rintro nX sX δX σX ⟨k, v, m, rfl, rfl, rfl, rfl, hk0, hm0⟩
  refine sw_seq ?_
  refine sl_region ?_
  refine sl_bin rfl rfl rfl rfl rfl ?_
  refine sl_nil ?_
  refine sw_seq ?_
  refine sw_cond rfl (fun hk => ?_) (fun hk => ?_)
  · have hk : k < ss.length := by simpa using hk
    have hso := hok ss[k] (List.getElem_mem hk)
    have hsl := hlt ss[k] (List.getElem_mem hk)
    have hml : m.length + 1100 ≤ 100000000 := by
      have := flat_len (f := encSumm) (c := 1100) (ns := ss) (fun s hs => encSumm_len (hok s hs) (hlt s hs)) k
      have h2 : 1100 * (k + 1) ≤ 1100 * ss.length := Nat.mul_le_mul (Nat.le_refl _) hk
      rw [hm0, List.length_append]; omega
    obtain ⟨hal, hmd, hnm⟩ := hsl
    obtain ⟨hao, hro, hmo⟩ := hso
    refine sw_skip ?_
    refine sw_seq ?_
    refine sw_block ?_
    refine sw_seq ?_
    refine sl_region ?_
    refine sl_indexAddr' rfl rfl rfl rfl u_124 sz_72 (by omega) (idx_map hk) rfl ?_
    first
      | refine sl_load_rpn rfl rfl rfl ag_72 sz_72 (Nat.le_of_ble_eq_true rfl) ?_
      | refine sl_load_blkn rfl rfl rfl ag_72 sz_72 (by repeat constructor) (Nat.le_of_ble_eq_true rfl) ?_
      | refine sl_load_ref rfl rfl rfl ag_72 sz_72 (Nat.le_of_ble_eq_true rfl) ?_
    refine sl_alloc rfl rfl zd_72 (fun b5 => ?_)
    refine sl_stp rfl rfl rfl rfl sz_72 rfl rfl rfl (by repeat constructor) (Nat.le_of_ble_eq_true rfl) ?_
    refine sl_nil ?_
    refine sw_seq ?_
    refine sw_freeze (t := 5) rfl rfl ?_
    refine sa_start [] mixed ?_
    refine sa_take 0 rfl rfl (by kernel_rfl) .nil (pu_mv rfl rfl) ?_
    refine sa_take 1 rfl rfl (by kernel_rfl) .nil (pu_nc rfl rfl rfl) ?_
    first
      | refine sa_take 2 rfl rfl (by kernel_rfl) .nil (pu_fieldAddr_ptr rfl rfl fo_30_0) ?_
      | refine sa_take 2 rfl rfl (by kernel_rfl) .nil (pu_fieldAddr_rp rfl rfl fo_30_0) ?_
      | refine sa_take 2 rfl rfl (by kernel_rfl) .nil (pu_fieldAddr_ref rfl rfl fo_30_0) ?_
    first
      | refine sa_take 3 rfl rfl (by kernel_rfl) .nil (pu_fieldAddr_ptr rfl rfl fo_72_0) ?_
      | refine sa_take 3 rfl rfl (by kernel_rfl) .nil (pu_fieldAddr_rp rfl rfl fo_72_0) ?_
      | refine sa_take 3 rfl rfl (by kernel_rfl) .nil (pu_fieldAddr_ref rfl rfl fo_72_0) ?_
    refine sa_take 4 rfl rfl (by kernel_rfl) .nil (pu_load_rp1 rfl rfl ag_67 rfl) ?_
    first
      | refine sa_take 5 rfl rfl (by kernel_rfl) .nil (pu_len rfl rfl ⟨_, u_67⟩) ?_
      | refine sa_take 5 rfl rfl (by kernel_rfl) .nil (pu_len_sl rfl rfl ⟨_, u_67⟩) ?_
      | refine sa_take 5 rfl rfl (by kernel_rfl) .nil (pu_len_w _ rfl rfl ⟨_, u_67⟩) ?_
    refine sa_take 6 rfl rfl (by kernel_rfl) .nil (pu_conv_int rfl rfl is_3 u_37) ?_
    refine sa_set 22 (.val (u64V ss[k].alarms.length)) (len_u64m almV (by omega)) ?_
    refine sa_one 7 (by kernel_rfl) rfl ?_
    refine sl_bs1 rfl rfl (.cons rfl .nil) u_51 sz_37 zs_37 (by decide) rfl rfl rfl rfl ?_
    refine sl_nil ⟨.nil, ?_⟩
    refine sa_one 8 (by kernel_rfl) rfl ?_
    refine sl_callf rfl rfl cal_28 (num_ok p v m [ss[k].alarms.length] σ (by intro n hn; rw [List.mem_singleton.mp hn]; omega) (by simp only [List.length_cons, List.length_nil]; omega)) ?_ ?_ ?_ (fun _ _ h => h.elim)
    · repeat constructor
    · repeat constructor
    rintro _ _ ⟨rfl, v2, rfl⟩
    refine sl_nil ⟨.nil, ?_⟩
    have e1 : m ++ [ss[k].alarms.length].flatMap encNum = m ++ encNum ss[k].alarms.length := by simp
    rw [e1]
    have hn1 := encNum_len (n := ss[k].alarms.length) (by omega)
    refine sa_done (by kernel_rfl) ?_
    refine sw_seq ?_
    refine sw_seq ?_
    refine sl_region ?_
    first
      | refine sl_fieldAddr_ptr rfl rfl rfl fo_72_0 ?_
      | refine sl_fieldAddr_rp rfl rfl rfl fo_72_0 ?_
      | refine sl_fieldAddr_ref rfl rfl rfl fo_72_0 ?_
    first
      | refine sl_load_rp1 rfl rfl rfl ag_67 rfl ?_
      | refine sl_load_blk1 rfl rfl rfl ag_67 (by repeat constructor) rfl ?_
    first
      | refine sl_len rfl rfl rfl ⟨_, u_67⟩ ?_
      | refine sl_len_sl rfl rfl rfl ⟨_, u_67⟩ ?_
      | refine sl_len_w _ rfl rfl rfl ⟨_, u_67⟩ ?_
    refine sl_set 27 (.val (.int .i64 (ss[k].alarms.length : Int))) (len_eq (List.length_map ..)) ?_
    refine sl_mv rfl rfl rfl ?_
    refine sl_nil ?_
    refine sw_block ?_
    refine sw_loopw (fun nX sX δX σX => ∃ (j : Nat) (v : Value) (m2 : List UInt8), (ss[k].alarms.length - j) = nX ∧ sX = ⟨86, (.cons 0 (.ptr p 0) (.cons 10 (.val (.list (ss.map smyV))) (.cons 11 (.val (.int .i64 (ss.length : Int))) (.cons 12 (.val (.int .i64 (k : Int))) (.cons 5 (.rp (smyCells ss[k])) (.cons 26 (.val (.list (ss[k].alarms.map almV))) (.cons 27 (.val (.int .i64 (ss[k].alarms.length : Int))) (.cons 28 (.val (.int .i64 (j : Int))) .nil))))))))⟩ ∧ δX = [] ∧ σX = .blk p [.own v (m2.map byteV)] :: .spare v 1 :: σ ∧ (j ≤ ss[k].alarms.length) ∧ (m2 = m ++ encNum ss[k].alarms.length ++ (ss[k].alarms.take j).flatMap encAlarm)) ?_ ?_
    · refine ⟨_, _, _, ?_, ?_, 0, v2, m ++ encNum ss[k].alarms.length, rfl, rfl, rfl, rfl, Nat.zero_le _, by simp⟩
      · exact ⟨rfl, by repeat constructor⟩
      · repeat constructor
    rintro nX sX δX σX ⟨j, v, m2, rfl, rfl, rfl, rfl, hj0, hm2⟩
    refine sw_seq ?_
    refine sl_region ?_
    refine sl_bin rfl rfl rfl rfl rfl ?_
    refine sl_nil ?_
    refine sw_seq ?_
    refine sw_cond rfl (fun hj => ?_) (fun hj => ?_)
    · have hj : j < ss[k].alarms.length := by simpa using hj
      have hao1 := hao ss[k].alarms[j] (List.getElem_mem hj)
      have hm2l : m2.length + 100 ≤ 100000000 := by
        have := flat_len (f := encAlarm) (c := 20) (ns := ss[k].alarms) (fun a ha => encAlarm_len (hao a ha)) j
        rw [hm2]; simp only [List.length_append]; omega
      refine sw_skip ?_
      refine sw_seq ?_
      refine sw_block ?_
      refine sw_seq ?_
      refine sl_region ?_
      refine sl_indexAddr' rfl rfl rfl rfl u_67 sz_86 (by omega) (idx_map hj) rfl ?_
      first
        | refine sl_load_rpn rfl rfl rfl ag_86 sz_86 (Nat.le_of_ble_eq_true rfl) ?_
        | refine sl_load_blkn rfl rfl rfl ag_86 sz_86 (by repeat constructor) (Nat.le_of_ble_eq_true rfl) ?_
        | refine sl_load_ref rfl rfl rfl ag_86 sz_86 (Nat.le_of_ble_eq_true rfl) ?_
      refine sl_alloc rfl rfl zd_86 (fun b7 => ?_)
      refine sl_stp rfl rfl rfl rfl sz_86 rfl rfl rfl (by repeat constructor) (Nat.le_of_ble_eq_true rfl) ?_
      refine sl_nil ?_
      refine sw_freeze (t := 7) rfl rfl ?_
      refine sa_start [] mixed ?_
      refine sa_take 0 rfl rfl (by kernel_rfl) .nil (pu_mv rfl rfl) ?_
      refine sa_take 1 rfl rfl (by kernel_rfl) .nil (pu_nc rfl rfl rfl) ?_
      first
        | refine sa_take 2 rfl rfl (by kernel_rfl) .nil (pu_fieldAddr_ptr rfl rfl fo_30_0) ?_
        | refine sa_take 2 rfl rfl (by kernel_rfl) .nil (pu_fieldAddr_rp rfl rfl fo_30_0) ?_
        | refine sa_take 2 rfl rfl (by kernel_rfl) .nil (pu_fieldAddr_ref rfl rfl fo_30_0) ?_
      first
        | refine sa_take 3 rfl rfl (by kernel_rfl) .nil (pu_fieldAddr_ptr rfl rfl fo_86_0) ?_
        | refine sa_take 3 rfl rfl (by kernel_rfl) .nil (pu_fieldAddr_rp rfl rfl fo_86_0) ?_
        | refine sa_take 3 rfl rfl (by kernel_rfl) .nil (pu_fieldAddr_ref rfl rfl fo_86_0) ?_
      refine sa_take 4 rfl rfl (by kernel_rfl) .nil (pu_load_rp1 rfl rfl ag_3 rfl) ?_
      first
        | refine sa_take 5 rfl rfl (by kernel_rfl) .nil (pu_fieldAddr_ptr rfl rfl fo_86_1) ?_
        | refine sa_take 5 rfl rfl (by kernel_rfl) .nil (pu_fieldAddr_rp rfl rfl fo_86_1) ?_
        | refine sa_take 5 rfl rfl (by kernel_rfl) .nil (pu_fieldAddr_ref rfl rfl fo_86_1) ?_
      refine sa_take 6 rfl rfl (by kernel_rfl) .nil (pu_load_rp1 rfl rfl ag_3 rfl) ?_
      refine sa_one 7 (by kernel_rfl) rfl ?_
      refine sl_bs1 rfl rfl (.cons rfl (.cons rfl .nil)) u_52 sz_2 zs_2 (by decide) rfl rfl rfl rfl ?_
      refine sl_nil ⟨.nil, ?_⟩
      refine sa_one 8 (by kernel_rfl) rfl ?_
      refine sl_callf rfl rfl cal_17 (int_ok p v m2 [ss[k].alarms[j].pos, ss[k].alarms[j].kind] σ (by intro n hn; simp at hn; rcases hn with rfl | rfl; exact hao1.1; exact hao1.2) (by simp only [List.length_cons, List.length_nil]; omega)) ?_ ?_ ?_ (fun _ _ h => h.elim)
      · repeat constructor
      · repeat constructor
      rintro _ _ ⟨rfl, v3, rfl⟩
      refine sl_nil ⟨.nil, ?_⟩
      refine sa_done (by kernel_rfl) ?_
      refine sl_region ?_
      first
        | refine sl_inc rfl rfl rfl rfl (by omega) ?_
        | refine sl_add rfl rfl rfl rfl (by constructor <;> omega) ?_
        | refine sl_bin rfl rfl rfl rfl rfl ?_
      refine sl_mv rfl rfl rfl ?_
      refine sl_nil ?_
      have e2 : m2 ++ [ss[k].alarms[j].pos, ss[k].alarms[j].kind].flatMap encInt = m ++ encNum ss[k].alarms.length ++ (ss[k].alarms.take (j + 1)).flatMap encAlarm := by
        rw [flat_snoc hj, hm2]; simp [encAlarm]
      refine ⟨_, by omega, _, _, ?_, ?_, j + 1, v3, _, rfl, rfl, rfl, rfl, by omega, e2⟩
      · exact ⟨rfl, by repeat constructor⟩
      · repeat constructor
    have hj : j = ss[k].alarms.length := by have h9 : ¬ j < ss[k].alarms.length := (by simpa using hj); omega
    subst hj
    rw [List.take_length] at hm2
    have ha1 := flat_allc (f := encAlarm) (c := 20) (ns := ss[k].alarms) (fun a ha => encAlarm_len (hao a ha))
    have hm2l : m2.length ≤ m.length + 210 := by rw [hm2]; simp only [List.length_append]; omega
    refine sw_exit ?_
    refine sw_seq ?_
    refine sa_start [] mixed ?_
    refine sa_take 0 rfl rfl (by kernel_rfl) .nil (pu_mv rfl rfl) ?_
    refine sa_take 1 rfl rfl (by kernel_rfl) .nil (pu_nc rfl rfl rfl) ?_
    first
      | refine sa_take 2 rfl rfl (by kernel_rfl) .nil (pu_fieldAddr_ptr rfl rfl fo_30_0) ?_
      | refine sa_take 2 rfl rfl (by kernel_rfl) .nil (pu_fieldAddr_rp rfl rfl fo_30_0) ?_
      | refine sa_take 2 rfl rfl (by kernel_rfl) .nil (pu_fieldAddr_ref rfl rfl fo_30_0) ?_
    first
      | refine sa_take 3 rfl rfl (by kernel_rfl) .nil (pu_fieldAddr_ptr rfl rfl fo_72_1) ?_
      | refine sa_take 3 rfl rfl (by kernel_rfl) .nil (pu_fieldAddr_rp rfl rfl fo_72_1) ?_
      | refine sa_take 3 rfl rfl (by kernel_rfl) .nil (pu_fieldAddr_ref rfl rfl fo_72_1) ?_
    refine sa_take 4 rfl rfl (by kernel_rfl) .nil (pu_load_rp1 rfl rfl ag_4 rfl) ?_
    refine sa_one 5 (by kernel_rfl) rfl ?_
    refine sl_bs1 rfl rfl (.cons rfl .nil) u_54 sz_4 zs_4 (by decide) rfl rfl rfl rfl ?_
    refine sl_nil ⟨.nil, ?_⟩
    refine sa_one 6 (by kernel_rfl) rfl ?_
    refine sl_callf rfl rfl cal_30 (bool_ok p v m2 [ss[k].ends] σ (by simp only [List.length_cons, List.length_nil]; omega)) ?_ ?_ ?_ (fun _ _ h => h.elim)
    · repeat constructor
    · repeat constructor
    rintro _ _ ⟨rfl, v4, rfl⟩
    refine sl_nil ⟨.nil, ?_⟩
    have e3 : m2 ++ [ss[k].ends].flatMap encBool = m2 ++ encBool ss[k].ends := by simp
    rw [e3]
    have hb3 := encBool_len1 ss[k].ends
    refine sa_done (by kernel_rfl) ?_
    refine sw_seq ?_
    refine sa_start [] mixed ?_
    refine sa_take 0 rfl rfl (by kernel_rfl) .nil (pu_mv rfl rfl) ?_
    refine sa_take 1 rfl rfl (by kernel_rfl) .nil (pu_nc rfl rfl rfl) ?_
    first
      | refine sa_take 2 rfl rfl (by kernel_rfl) .nil (pu_fieldAddr_ptr rfl rfl fo_30_0) ?_
      | refine sa_take 2 rfl rfl (by kernel_rfl) .nil (pu_fieldAddr_rp rfl rfl fo_30_0) ?_
      | refine sa_take 2 rfl rfl (by kernel_rfl) .nil (pu_fieldAddr_ref rfl rfl fo_30_0) ?_
    first
      | refine sa_take 3 rfl rfl (by kernel_rfl) .nil (pu_fieldAddr_ptr rfl rfl fo_72_2) ?_
      | refine sa_take 3 rfl rfl (by kernel_rfl) .nil (pu_fieldAddr_rp rfl rfl fo_72_2) ?_
      | refine sa_take 3 rfl rfl (by kernel_rfl) .nil (pu_fieldAddr_ref rfl rfl fo_72_2) ?_
    refine sa_take 4 rfl rfl (by kernel_rfl) .nil (pu_load_rpn rfl rfl ag_69 sz_69 (Nat.le_of_ble_eq_true rfl)) ?_
    refine sa_one 5 (by kernel_rfl) rfl ?_
    refine sl_callf rfl rfl cal_81 (wival_ok p v4 (m2 ++ encBool ss[k].ends) ss[k].ret σ hro (by rw [List.length_append]; omega)) ?_ ?_ ?_ (fun _ _ h => h.elim)
    · repeat constructor
    · repeat constructor
    rintro _ _ ⟨rfl, v5, rfl⟩
    refine sl_nil ⟨.nil, ?_⟩
    have hb4 := encIval_len hro
    refine sa_done (by kernel_rfl) ?_
    refine sw_seq ?_
    refine sa_start [] mixed ?_
    refine sa_take 0 rfl rfl (by kernel_rfl) .nil (pu_mv rfl rfl) ?_
    refine sa_take 1 rfl rfl (by kernel_rfl) .nil (pu_nc rfl rfl rfl) ?_
    first
      | refine sa_take 2 rfl rfl (by kernel_rfl) .nil (pu_fieldAddr_ptr rfl rfl fo_30_0) ?_
      | refine sa_take 2 rfl rfl (by kernel_rfl) .nil (pu_fieldAddr_rp rfl rfl fo_30_0) ?_
      | refine sa_take 2 rfl rfl (by kernel_rfl) .nil (pu_fieldAddr_ref rfl rfl fo_30_0) ?_
    first
      | refine sa_take 3 rfl rfl (by kernel_rfl) .nil (pu_fieldAddr_ptr rfl rfl fo_72_3) ?_
      | refine sa_take 3 rfl rfl (by kernel_rfl) .nil (pu_fieldAddr_rp rfl rfl fo_72_3) ?_
      | refine sa_take 3 rfl rfl (by kernel_rfl) .nil (pu_fieldAddr_ref rfl rfl fo_72_3) ?_
    refine sa_take 4 rfl rfl (by kernel_rfl) .nil (pu_load_rp1 rfl rfl ag_70 rfl) ?_
    first
      | refine sa_take 5 rfl rfl (by kernel_rfl) .nil (pu_len rfl rfl ⟨_, u_70⟩) ?_
      | refine sa_take 5 rfl rfl (by kernel_rfl) .nil (pu_len_sl rfl rfl ⟨_, u_70⟩) ?_
      | refine sa_take 5 rfl rfl (by kernel_rfl) .nil (pu_len_w _ rfl rfl ⟨_, u_70⟩) ?_
    refine sa_take 6 rfl rfl (by kernel_rfl) .nil (pu_conv_int rfl rfl is_3 u_37) ?_
    refine sa_set 61 (.val (u64V ss[k].mod.length)) (len_u64m nmdV (by omega)) ?_
    refine sa_one 7 (by kernel_rfl) rfl ?_
    refine sl_bs1 rfl rfl (.cons rfl .nil) u_51 sz_37 zs_37 (by decide) rfl rfl rfl rfl ?_
    refine sl_nil ⟨.nil, ?_⟩
    refine sa_one 8 (by kernel_rfl) rfl ?_
    refine sl_callf rfl rfl cal_28 (num_ok p v5 (m2 ++ encBool ss[k].ends ++ encIval ss[k].ret) [ss[k].mod.length] σ (by intro n hn; rw [List.mem_singleton.mp hn]; omega) (by simp only [List.length_append, List.length_cons, List.length_nil]; omega)) ?_ ?_ ?_ (fun _ _ h => h.elim)
    · repeat constructor
    · repeat constructor
    rintro _ _ ⟨rfl, v6, rfl⟩
    refine sl_nil ⟨.nil, ?_⟩
    obtain ⟨m3, hm3⟩ : ∃ m3, m3 = m2 ++ encBool ss[k].ends ++ encIval ss[k].ret ++ encNum ss[k].mod.length := ⟨_, rfl⟩
    have e4 : m2 ++ encBool ss[k].ends ++ encIval ss[k].ret ++ [ss[k].mod.length].flatMap encNum = m3 := by rw [hm3]; simp
    rw [e4]
    have hn5 := encNum_len (n := ss[k].mod.length) (by omega)
    have hm3l : m3.length ≤ m.length + 252 := by rw [hm3]; simp only [List.length_append]; omega
    refine sa_done (by kernel_rfl) ?_
    refine sw_seq ?_
    refine sl_region ?_
    first
      | refine sl_fieldAddr_ptr rfl rfl rfl fo_72_3 ?_
      | refine sl_fieldAddr_rp rfl rfl rfl fo_72_3 ?_
      | refine sl_fieldAddr_ref rfl rfl rfl fo_72_3 ?_
    first
      | refine sl_load_rp1 rfl rfl rfl ag_70 rfl ?_
      | refine sl_load_blk1 rfl rfl rfl ag_70 (by repeat constructor) rfl ?_
    first
      | refine sl_len rfl rfl rfl ⟨_, u_70⟩ ?_
      | refine sl_len_sl rfl rfl rfl ⟨_, u_70⟩ ?_
      | refine sl_len_w _ rfl rfl rfl ⟨_, u_70⟩ ?_
    refine sl_set 66 (.val (.int .i64 (ss[k].mod.length : Int))) (len_eq (List.length_map ..)) ?_
    refine sl_mv rfl rfl rfl ?_
    refine sl_nil ?_
    refine sw_block ?_
    refine sw_loopw (fun nX sX δX σX => ∃ (j : Nat) (v : Value) (m4 : List UInt8), (ss[k].mod.length - j) = nX ∧ sX = ⟨86, (.cons 0 (.ptr p 0) (.cons 10 (.val (.list (ss.map smyV))) (.cons 11 (.val (.int .i64 (ss.length : Int))) (.cons 12 (.val (.int .i64 (k : Int))) (.cons 65 (.val (.list (ss[k].mod.map nmdV))) (.cons 66 (.val (.int .i64 (ss[k].mod.length : Int))) (.cons 67 (.val (.int .i64 (j : Int))) .nil)))))))⟩ ∧ δX = [] ∧ σX = .blk p [.own v (m4.map byteV)] :: .spare v 1 :: σ ∧ (j ≤ ss[k].mod.length) ∧ (m4 = m3 ++ (ss[k].mod.take j).flatMap encNamed)) ?_ ?_
    · refine ⟨_, _, _, ?_, ?_, 0, v6, m3, rfl, rfl, rfl, rfl, Nat.zero_le _, by simp⟩
      · exact ⟨rfl, by repeat constructor⟩
      · repeat constructor
    rintro nX sX δX σX ⟨j, v, m4, rfl, rfl, rfl, rfl, hj0, hm4⟩
    refine sw_seq ?_
    refine sl_region ?_
    refine sl_bin rfl rfl rfl rfl rfl ?_
    refine sl_nil ?_
    refine sw_seq ?_
    refine sw_cond rfl (fun hj => ?_) (fun hj => ?_)
    · have hj : j < ss[k].mod.length := by simpa using hj
      have hmo1 := hmo ss[k].mod[j] (List.getElem_mem hj)
      have hnm1 := hnm ss[k].mod[j] (List.getElem_mem hj)
      have hm4l : m4.length + 100 ≤ 100000000 := by
        have := flat_len (f := encNamed) (c := 81) (ns := ss[k].mod) (fun a ha => encNamed_len (hmo a ha) (hnm a ha)) j
        rw [hm4]; simp only [List.length_append]; omega
      refine sw_skip ?_
      refine sw_seq ?_
      refine sw_block ?_
      refine sw_seq ?_
      refine sl_region ?_
      refine sl_indexAddr' rfl rfl rfl rfl u_70 sz_127 (by omega) (idx_map hj) rfl ?_
      first
        | refine sl_load_rpn rfl rfl rfl ag_127 sz_127 (Nat.le_of_ble_eq_true rfl) ?_
        | refine sl_load_blkn rfl rfl rfl ag_127 sz_127 (by repeat constructor) (Nat.le_of_ble_eq_true rfl) ?_
        | refine sl_load_ref rfl rfl rfl ag_127 sz_127 (Nat.le_of_ble_eq_true rfl) ?_
      refine sl_alloc rfl rfl zd_127 (fun b9 => ?_)
      refine sl_stp rfl rfl rfl rfl sz_127 rfl rfl rfl (by repeat constructor) (Nat.le_of_ble_eq_true rfl) ?_
      refine sl_nil ?_
      refine sw_seq ?_
      refine sw_freeze (t := 9) rfl rfl ?_
      refine sa_start [] mixed ?_
      refine sa_take 0 rfl rfl (by kernel_rfl) .nil (pu_mv rfl rfl) ?_
      refine sa_take 1 rfl rfl (by kernel_rfl) .nil (pu_nc rfl rfl rfl) ?_
      first
        | refine sa_take 2 rfl rfl (by kernel_rfl) .nil (pu_fieldAddr_ptr rfl rfl fo_30_0) ?_
        | refine sa_take 2 rfl rfl (by kernel_rfl) .nil (pu_fieldAddr_rp rfl rfl fo_30_0) ?_
        | refine sa_take 2 rfl rfl (by kernel_rfl) .nil (pu_fieldAddr_ref rfl rfl fo_30_0) ?_
      first
        | refine sa_take 3 rfl rfl (by kernel_rfl) .nil (pu_fieldAddr_ptr rfl rfl fo_127_0) ?_
        | refine sa_take 3 rfl rfl (by kernel_rfl) .nil (pu_fieldAddr_rp rfl rfl fo_127_0) ?_
        | refine sa_take 3 rfl rfl (by kernel_rfl) .nil (pu_fieldAddr_ref rfl rfl fo_127_0) ?_
      refine sa_take 4 rfl rfl (by kernel_rfl) .nil (pu_load_rp1 rfl rfl ag_9 rfl) ?_
      refine sa_one 5 (by kernel_rfl) rfl ?_
      refine sl_bs1 rfl rfl (.cons rfl .nil) u_53 sz_9 zs_9 (by decide) rfl rfl rfl rfl ?_
      refine sl_nil ⟨.nil, ?_⟩
      refine sa_one 6 (by kernel_rfl) rfl ?_
      refine sl_callf rfl rfl cal_29 (text_ok p v m4 [ss[k].mod[j].name] 50 σ (by intro n hn; rw [List.mem_singleton.mp hn]; exact hnm1) (by simp only [List.length_cons, List.length_nil]; omega)) ?_ ?_ ?_ (fun _ _ h => h.elim)
      · repeat constructor
      · repeat constructor
      rintro _ _ ⟨rfl, v7, rfl⟩
      refine sl_nil ⟨.nil, ?_⟩
      have e5 : m4 ++ [ss[k].mod[j].name].flatMap encText = m4 ++ encText ss[k].mod[j].name := by simp
      rw [e5]
      have ht5 := encText_lenc hnm1 (by decide)
      refine sa_done (by kernel_rfl) ?_
      refine sa_start [] mixed ?_
      refine sa_take 0 rfl rfl (by kernel_rfl) .nil (pu_mv rfl rfl) ?_
      refine sa_take 1 rfl rfl (by kernel_rfl) .nil (pu_nc rfl rfl rfl) ?_
      first
        | refine sa_take 2 rfl rfl (by kernel_rfl) .nil (pu_fieldAddr_ptr rfl rfl fo_30_0) ?_
        | refine sa_take 2 rfl rfl (by kernel_rfl) .nil (pu_fieldAddr_rp rfl rfl fo_30_0) ?_
        | refine sa_take 2 rfl rfl (by kernel_rfl) .nil (pu_fieldAddr_ref rfl rfl fo_30_0) ?_
      first
        | refine sa_take 3 rfl rfl (by kernel_rfl) .nil (pu_fieldAddr_ptr rfl rfl fo_127_1) ?_
        | refine sa_take 3 rfl rfl (by kernel_rfl) .nil (pu_fieldAddr_rp rfl rfl fo_127_1) ?_
        | refine sa_take 3 rfl rfl (by kernel_rfl) .nil (pu_fieldAddr_ref rfl rfl fo_127_1) ?_
      refine sa_take 4 rfl rfl (by kernel_rfl) .nil (pu_load_rpn rfl rfl ag_69 sz_69 (Nat.le_of_ble_eq_true rfl)) ?_
      refine sa_one 5 (by kernel_rfl) rfl ?_
      refine sl_callf rfl rfl cal_81 (wival_ok p v7 (m4 ++ encText ss[k].mod[j].name) ss[k].mod[j].v σ hmo1 (by rw [List.length_append]; omega)) ?_ ?_ ?_ (fun _ _ h => h.elim)
      · repeat constructor
      · repeat constructor
      rintro _ _ ⟨rfl, v8, rfl⟩
      refine sl_nil ⟨.nil, ?_⟩
      refine sa_done (by kernel_rfl) ?_
      refine sl_region ?_
      first
        | refine sl_inc rfl rfl rfl rfl (by omega) ?_
        | refine sl_add rfl rfl rfl rfl (by constructor <;> omega) ?_
        | refine sl_bin rfl rfl rfl rfl rfl ?_
      refine sl_mv rfl rfl rfl ?_
      refine sl_nil ?_
      have e6 : m4 ++ encText ss[k].mod[j].name ++ encIval ss[k].mod[j].v = m3 ++ (ss[k].mod.take (j + 1)).flatMap encNamed := by
        rw [flat_snoc hj, hm4]; simp [encNamed]
      refine ⟨_, by omega, _, _, ?_, ?_, j + 1, v8, _, rfl, rfl, rfl, rfl, by omega, e6⟩
      · exact ⟨rfl, by repeat constructor⟩
      · repeat constructor
    have hj : j = ss[k].mod.length := by have h9 : ¬ j < ss[k].mod.length := (by simpa using hj); omega
    subst hj
    rw [List.take_length] at hm4
    refine sw_exit ?_
    refine sl_region ?_
    first
      | refine sl_inc rfl rfl rfl rfl (by omega) ?_
      | refine sl_add rfl rfl rfl rfl (by constructor <;> omega) ?_
      | refine sl_bin rfl rfl rfl rfl rfl ?_
    refine sl_mv rfl rfl rfl ?_
    refine sl_nil ?_
    have e7 : m4 = l ++ (ss.take (k + 1)).flatMap encSumm := by
      rw [flat_snoc hk, hm4, hm3, hm2, hm0]; simp [encSumm, encAlarms]
    refine ⟨_, by omega, _, _, ?_, ?_, k + 1, v, _, rfl, rfl, rfl, rfl, by omega, e7⟩
    · exact ⟨rfl, by repeat constructor⟩
    · repeat constructor
  have hk : k = ss.length := by have h9 : ¬ k < ss.length := (by simpa using hk); omega
  subst hk
  rw [List.take_length] at hm0
  subst hm0
  refine sw_exit ?_
  refine ⟨rfl, _, _, res_none rfl, ?_, ⟨rfl, v, rfl⟩⟩
  repeat constructor

end Go.Proofs.Ytioechdfghglhaa

/- Walks: printed by a program of this session out of its script CodeI. -/
namespace Go.Proofs.Ytioechdfghglhaa
set_option linter.unusedVariables false
set_option linter.unusedSimpArgs false
set_option maxRecDepth 4000
set_option maxHeartbeats 4000000
open Go Go.RowKit SL


/-- The document's numbers. -/
theorem xnum_ok (v : Value) (l : List UInt8) (n : Nat) (σ : List Chunk) (hn : n < 18446744073709551616) (hl : l.length + 10 ≤ 100000000) :
    FSpec Try.prog 77 [.own v (l.map byteV), .val (u64V n)] (.spare v 1 :: σ) (fun d σ' => ∃ v', d = .own v' ((l ++ encNum n).map byteV) ∧ σ' = .spare v' 1 :: σ) := by
  refine spec_of_sw Try.func77 rfl ?_
  refine sw_seq ?_
  refine sl_region ?_
  refine sl_as rfl rfl rfl ?_
  refine sl_nil ?_
  refine sw_seq ?_
  refine sw_block ?_
  refine sw_loopw (fun nX sX δX σX => ∃ (x : Nat) (v : Value) (m : List UInt8), (x) = nX ∧ sX = ⟨20, (.cons 0 (.own v (m.map byteV)) (.cons 1 (.val (.int .u64 (x : Int))) .nil))⟩ ∧ δX = [] ∧ σX = .spare v 1 :: σ ∧ (x < 18446744073709551616) ∧ (m ++ encNum x = l ++ encNum n)) ?_ ?_
  · refine ⟨_, _, _, ?_, ?_, n, v, l, rfl, rfl, rfl, rfl, hn, rfl⟩
    · exact ⟨rfl, by repeat constructor⟩
    · repeat constructor
  rintro nX sX δX σX ⟨x, v, m, rfl, rfl, rfl, rfl, hx0, hm⟩
  have hml : m.length ≤ 99999999 := by
    have h1 := congrArg List.length hm
    have h2 := encNum_len hn
    have h3 := encNum_pos x
    simp only [List.length_append] at h1
    omega
  refine sw_seq ?_
  refine sw_seq ?_
  refine sl_region ?_
  refine sl_mv rfl rfl rfl ?_
  refine sl_bin rfl rfl rfl rfl rfl ?_
  refine sl_nil ?_
  refine sw_cond rfl (fun hx => ?_) (fun hx => ?_)
  · have hx : 128 ≤ x := by have := of_decide_eq_true hx; omega
    refine sw_skip ?_
    refine sw_block ?_
    refine sw_seq ?_
    refine sl_region ?_
    refine sl_mv rfl rfl rfl ?_
    refine sl_mv rfl rfl rfl ?_
    refine sl_conv_int rfl rfl rfl is_37 u_5 ?_
    refine sl_bin rfl rfl rfl rfl rfl ?_
    refine sl_bs1 rfl rfl (.cons rfl .nil) u_26 sz_5 zs_5 (by decide) rfl rfl rfl rfl ?_
    refine sl_appp rfl rfl rfl rfl u_26 ⟨_, u_26, rfl⟩ el_5 (by repeat constructor) (by repeat constructor) (by simp; omega) ((by rw [List.map_append]; exact congrArg _ (congrArg (fun z => [z]) (hi_byte x)) : _ = (m ++ [UInt8.ofNat (x % 128 + 128)]).map byteV)) (by repeat constructor) (fun v12 => ?_)
    refine sl_as rfl rfl rfl ?_
    refine sl_nil ?_
    refine sl_region ?_
    refine sl_mv rfl rfl rfl ?_
    refine sl_shr rfl rfl rfl rfl (by decide) ?_
    refine sl_set 14 (.val (.int .u64 ((x / 128 : Nat) : Int))) (shr7 x) ?_
    refine sl_as rfl rfl rfl ?_
    refine sl_nil ?_
    refine ⟨_, by omega, _, _, ?_, ?_, x / 128, v12, m ++ [UInt8.ofNat (x % 128 + 128)], rfl, rfl, rfl, rfl, by omega, by rw [← hm, encNum_ge hx]; simp⟩
    · exact ⟨rfl, by repeat constructor⟩
    · repeat constructor
  have hx : x < 128 := by have := of_decide_eq_false hx; omega
  refine sw_exit ?_
  refine sw_seq ?_
  refine sl_region ?_
  refine sl_mv rfl rfl rfl ?_
  refine sl_mv rfl rfl rfl ?_
  refine sl_conv_int rfl rfl rfl is_37 u_5 ?_
  refine sl_bs1 rfl rfl (.cons rfl .nil) u_26 sz_5 zs_5 (by decide) rfl rfl rfl rfl ?_
  refine sl_appp rfl rfl rfl rfl u_26 ⟨_, u_26, rfl⟩ el_5 (by repeat constructor) (by repeat constructor) (by simp; omega) ((by rw [List.map_append]; exact congrArg _ (congrArg (fun z => [z]) (lo_byte x)) : _ = (m ++ [UInt8.ofNat x]).map byteV)) (by repeat constructor) (fun v19 => ?_)
  refine sl_as rfl rfl rfl ?_
  refine sl_nil ?_
  have e : m ++ [UInt8.ofNat x] = l ++ encNum n := by rw [← hm, encNum_lt hx]
  rw [e]
  refine sw_ret ⟨rfl, _, _, res_one rfl rfl, ?_, ⟨v19, rfl, rfl⟩⟩
  repeat constructor

/-- The document's numbers with signs. -/
theorem xint_ok (v : Value) (l : List UInt8) (n : Int) (σ : List Chunk) (h : isI64 n) (hl : l.length + 10 ≤ 100000000) :
    FSpec Try.prog 78 [.own v (l.map byteV), .val (i64V n)] (.spare v 1 :: σ) (fun d σ' => ∃ v', d = .own v' ((l ++ encInt n).map byteV) ∧ σ' = .spare v' 1 :: σ) := by
  have h' := h
  unfold isI64 at h'
  refine spec_of_sw Try.func78 rfl ?_
  refine sw_seq ?_
  refine sl_region ?_
  refine sl_as rfl rfl rfl ?_
  refine sl_nil ?_
  refine sw_seq ?_
  refine sw_seq ?_
  refine sl_region ?_
  refine sl_mv rfl rfl rfl ?_
  refine sl_bin rfl rfl rfl rfl rfl ?_
  refine sl_nil ?_
  refine sw_cond rfl (fun hn => ?_) (fun hn => ?_)
  · have hn : n < 0 := of_decide_eq_true hn
    refine sw_seq ?_
    refine sl_region ?_
    refine sl_mv rfl rfl rfl ?_
    refine sl_mv rfl rfl rfl ?_
    first
      | refine sl_inc rfl rfl rfl rfl (by omega) ?_
      | refine sl_add rfl rfl rfl rfl (by constructor <;> omega) ?_
      | refine sl_bin rfl rfl rfl rfl rfl ?_
    refine sl_neg rfl rfl rfl ?_
    refine sl_conv_int rfl rfl rfl is_2 u_37 ?_
    refine sl_bin rfl rfl rfl rfl rfl ?_
    refine sl_bin rfl rfl rfl rfl rfl ?_
    refine sl_set 13 (.val (u64V (zig n))) (zig_neg h hn) ?_
    refine sl_callf rfl rfl cal_77 (xnum_ok v l (zig n) σ (zig_lt h) hl) ?_ ?_ ?_ (fun _ _ h => h.elim)
    · repeat constructor
    · repeat constructor
    rintro _ _ ⟨v2, rfl, rfl⟩
    refine sl_as rfl rfl rfl ?_
    refine sl_nil ?_
    refine sw_ret ⟨rfl, _, _, res_one rfl rfl, ?_, ⟨v2, rfl, rfl⟩⟩
    repeat constructor
  have hn : ¬ n < 0 := of_decide_eq_false hn
  refine sw_skip ?_
  refine sw_seq ?_
  refine sl_region ?_
  refine sl_mv rfl rfl rfl ?_
  refine sl_mv rfl rfl rfl ?_
  refine sl_conv_int rfl rfl rfl is_2 u_37 ?_
  refine sl_bin rfl rfl rfl rfl rfl ?_
  refine sl_set 18 (.val (u64V (zig n))) (zig_pos h hn) ?_
  refine sl_callf rfl rfl cal_77 (xnum_ok v l (zig n) σ (zig_lt h) hl) ?_ ?_ ?_ (fun _ _ h => h.elim)
  · repeat constructor
  · repeat constructor
  rintro _ _ ⟨v2, rfl, rfl⟩
  refine sl_as rfl rfl rfl ?_
  refine sl_nil ?_
  refine sw_ret ⟨rfl, _, _, res_one rfl rfl, ?_, ⟨v2, rfl, rfl⟩⟩
  repeat constructor

/-- The document's texts. -/
theorem xtext_ok (v : Value) (l : List UInt8) (s : List UInt8) (σ : List Chunk) (hs : s.length ≤ 1000000) (hl : l.length + 1000010 ≤ 100000000) :
    FSpec Try.prog 39 [.own v (l.map byteV), .val (strV s)] (.spare v 1 :: σ) (fun d σ' => ∃ v', d = .own v' ((l ++ encText s).map byteV) ∧ σ' = .spare v' 1 :: σ) := by
  refine spec_of_sw Try.func39 rfl ?_
  refine sw_seq ?_
  refine sl_region ?_
  refine sl_as rfl rfl rfl ?_
  refine sl_nil ?_
  refine sw_seq ?_
  refine sl_region ?_
  refine sl_mv rfl rfl rfl ?_
  refine sl_mv rfl rfl rfl ?_
  refine sl_len_str rfl rfl rfl u_9 ?_
  refine sl_conv_int rfl rfl rfl is_3 u_37 ?_
  refine sl_set 8 (.val (u64V s.length)) (congrArg (fun z => D.val (.int .u64 z)) (wrapped_u64 _ (by omega))) ?_
  have hel := encNum_len (n := s.length) (by omega)
  refine sl_callf rfl rfl cal_77 (xnum_ok v l s.length σ (by omega) (by omega)) ?_ ?_ ?_ (fun _ _ h => h.elim)
  · repeat constructor
  · repeat constructor
  rintro _ _ ⟨v2, rfl, rfl⟩
  refine sl_mv rfl rfl rfl ?_
  refine sl_app_strp rfl rfl rfl rfl u_26 u_9 el_5 (by repeat constructor) (by simp; omega) ((by rw [← List.map_append] : _ = ((l ++ encNum s.length) ++ s).map byteV)) (by repeat constructor) (fun v11 => ?_)
  refine sl_as rfl rfl rfl ?_
  refine sl_nil ?_
  have e : (l ++ encNum s.length) ++ s = l ++ encText s := by simp [encText]
  rw [e]
  refine sw_ret ⟨rfl, _, _, res_one rfl rfl, ?_, ⟨v11, rfl, rfl⟩⟩
  repeat constructor

/-- The document's truths. -/
theorem xbool_ok (v : Value) (l : List UInt8) (b : Bool) (σ : List Chunk) (hl : l.length + 10 ≤ 100000000) :
    FSpec Try.prog 79 [.own v (l.map byteV), .val (boolV b)] (.spare v 1 :: σ) (fun d σ' => ∃ v', d = .own v' ((l ++ encBool b).map byteV) ∧ σ' = .spare v' 1 :: σ) := by
  refine spec_of_sw Try.func79 rfl ?_
  refine sw_seq ?_
  refine sl_region ?_
  refine sl_as rfl rfl rfl ?_
  refine sl_nil ?_
  refine sw_seq ?_
  refine sw_seq ?_
  refine sl_region ?_
  refine sl_mv rfl rfl rfl ?_
  refine sl_nil ?_
  refine sw_cond rfl (fun hb => ?_) (fun hb => ?_)
  · refine sw_seq ?_
    refine sl_region ?_
    refine sl_mv rfl rfl rfl ?_
    refine sl_bs1 rfl rfl (.cons rfl .nil) u_26 sz_5 zs_5 (by decide) rfl rfl rfl rfl ?_
    refine sl_appp rfl rfl rfl rfl u_26 ⟨_, u_26, rfl⟩ el_5 (by repeat constructor) (by repeat constructor) (by simp; omega) ((by rw [show b = true from hb, encBool_eq, List.map_append]; rfl : _ = (l ++ encBool b).map byteV)) (by repeat constructor) (fun v8 => ?_)
    refine sl_as rfl rfl rfl ?_
    refine sl_nil ?_
    refine sw_ret ⟨rfl, _, _, res_one rfl rfl, ?_, ⟨v8, rfl, rfl⟩⟩
    repeat constructor
  refine sw_skip ?_
  refine sw_seq ?_
  refine sl_region ?_
  refine sl_mv rfl rfl rfl ?_
  refine sl_bs1 rfl rfl (.cons rfl .nil) u_26 sz_5 zs_5 (by decide) rfl rfl rfl rfl ?_
  refine sl_appp rfl rfl rfl rfl u_26 ⟨_, u_26, rfl⟩ el_5 (by repeat constructor) (by repeat constructor) (by simp; omega) ((by rw [show b = false from hb, encBool_eq, List.map_append]; rfl : _ = (l ++ encBool b).map byteV)) (by repeat constructor) (fun v11 => ?_)
  refine sl_as rfl rfl rfl ?_
  refine sl_nil ?_
  refine sw_ret ⟨rfl, _, _, res_one rfl rfl, ?_, ⟨v11, rfl, rfl⟩⟩
  repeat constructor

/-- The document's intervals. -/
theorem xival_ok (v : Value) (l : List UInt8) (i : Ivl) (σ : List Chunk) (hi : IvlOk i) (hl : l.length + 30 ≤ 100000000) :
    FSpec Try.prog 99 [.own v (l.map byteV), .val (ivlV i)] (.spare v 1 :: σ) (fun d σ' => ∃ v', d = .own v' ((l ++ encIval i).map byteV) ∧ σ' = .spare v' 1 :: σ) := by
  refine spec_of_sw Try.func99 rfl ?_
  refine sw_seq ?_
  refine sl_region ?_
  refine sl_bx_imm rfl rfl rfl rfl rfl ?_
  refine sl_as rfl rfl rfl ?_
  refine sl_nil ?_
  refine sw_seq ?_
  refine sl_region ?_
  refine sl_mv rfl rfl rfl ?_
  first
    | refine sl_fieldAddr_ptr rfl rfl rfl fo_69_0 ?_
    | refine sl_fieldAddr_rp rfl rfl rfl fo_69_0 ?_
    | refine sl_fieldAddr_ref rfl rfl rfl fo_69_0 ?_
  first
    | refine sl_load_rp1 rfl rfl rfl ag_4 rfl ?_
    | refine sl_load_blk1 rfl rfl rfl ag_4 (by repeat constructor) rfl ?_
  refine sl_callf rfl rfl cal_79 (xbool_ok v l i.some σ (by omega)) ?_ ?_ ?_ (fun _ _ h => h.elim)
  · repeat constructor
  · repeat constructor
  rintro _ _ ⟨v2, rfl, rfl⟩
  have hb := encBool_len1 i.some
  have h1 := encInt_len hi.1
  refine sl_as rfl rfl rfl ?_
  refine sl_nil ?_
  refine sw_seq ?_
  refine sw_seq ?_
  refine sl_region ?_
  first
    | refine sl_fieldAddr_ptr rfl rfl rfl fo_69_0 ?_
    | refine sl_fieldAddr_rp rfl rfl rfl fo_69_0 ?_
    | refine sl_fieldAddr_ref rfl rfl rfl fo_69_0 ?_
  first
    | refine sl_load_rp1 rfl rfl rfl ag_4 rfl ?_
    | refine sl_load_blk1 rfl rfl rfl ag_4 (by repeat constructor) rfl ?_
  refine sl_nil ?_
  refine sw_cond rfl (fun h => ?_) (fun h => ?_)
  · refine sa_start [] mixed ?_
    refine sa_take 0 rfl rfl (by kernel_rfl) .nil (pu_mv rfl rfl) ?_
    first
      | refine sa_take 1 rfl rfl (by kernel_rfl) .nil (pu_fieldAddr_ptr rfl rfl fo_69_1) ?_
      | refine sa_take 1 rfl rfl (by kernel_rfl) .nil (pu_fieldAddr_rp rfl rfl fo_69_1) ?_
      | refine sa_take 1 rfl rfl (by kernel_rfl) .nil (pu_fieldAddr_ref rfl rfl fo_69_1) ?_
    refine sa_take 2 rfl rfl (by kernel_rfl) .nil (pu_load_rp1 rfl rfl ag_2 rfl) ?_
    first
      | refine sa_take 4 rfl rfl (by kernel_rfl) .nil (pu_fieldAddr_ptr rfl rfl fo_69_2) ?_
      | refine sa_take 4 rfl rfl (by kernel_rfl) .nil (pu_fieldAddr_rp rfl rfl fo_69_2) ?_
      | refine sa_take 4 rfl rfl (by kernel_rfl) .nil (pu_fieldAddr_ref rfl rfl fo_69_2) ?_
    refine sa_take 5 rfl rfl (by kernel_rfl) .nil (pu_load_rp1 rfl rfl ag_2 rfl) ?_
    refine sa_one 3 (by kernel_rfl) rfl ?_
    refine sl_callf rfl rfl cal_78 (xint_ok v2 (l ++ encBool i.some) i.lo σ hi.1 (by rw [List.length_append]; omega)) ?_ ?_ ?_ (fun _ _ h => h.elim)
    · repeat constructor
    · repeat constructor
    rintro _ _ ⟨v3, rfl, rfl⟩
    refine sl_nil ⟨.nil, ?_⟩
    refine sa_one 6 (by kernel_rfl) rfl ?_
    refine sl_callf rfl rfl cal_78 (xint_ok v3 (l ++ encBool i.some ++ encInt i.lo) i.hi σ hi.2 (by simp only [List.length_append]; omega)) ?_ ?_ ?_ (fun _ _ h => h.elim)
    · repeat constructor
    · repeat constructor
    rintro _ _ ⟨v4, rfl, rfl⟩
    refine sl_nil ⟨.nil, ?_⟩
    have e2 : l ++ encBool i.some ++ encInt i.lo ++ encInt i.hi = l ++ encIval i := by
      unfold encIval; rw [if_pos h]; simp
    rw [e2]
    refine sa_one 7 (by kernel_rfl) rfl ?_
    refine sl_as rfl rfl rfl ?_
    refine sl_nil ⟨.nil, ?_⟩
    refine sa_done (by kernel_rfl) ?_
    refine sw_seq ?_
    refine sl_region ?_
    refine sl_mv rfl rfl rfl ?_
    refine sl_as rfl rfl rfl ?_
    refine sl_nil ?_
    refine sw_ret ⟨rfl, _, _, res_one rfl rfl, ?_, ⟨v4, rfl, rfl⟩⟩
    repeat constructor
  have e2 : l ++ encBool i.some = l ++ encIval i := by
    unfold encIval; rw [if_neg (by rw [show i.some = false from h]; simp)]; simp
  rw [e2]
  refine sw_skip ?_
  refine sw_seq ?_
  refine sl_region ?_
  refine sl_mv rfl rfl rfl ?_
  refine sl_as rfl rfl rfl ?_
  refine sl_nil ?_
  refine sw_ret ⟨rfl, _, _, res_one rfl rfl, ?_, ⟨v2, rfl, rfl⟩⟩
  repeat constructor

/-- The document's alarms. -/
theorem xalarms_ok (v : Value) (l : List UInt8) (al : List Alm) (σ : List Chunk) (ha : ∀ a ∈ al, AlmOk a) (hn : al.length ≤ 1000000) (hl : l.length + 20 * al.length + 10 ≤ 100000000) :
    FSpec Try.prog 91 [.own v (l.map byteV), .val (.list (al.map almV))] (.spare v 1 :: σ) (fun d σ' => ∃ v', d = .own v' ((l ++ encAlarms al).map byteV) ∧ σ' = .spare v' 1 :: σ) := by
  refine spec_of_sw Try.func91 rfl ?_
  refine sw_seq ?_
  refine sl_region ?_
  refine sl_as rfl rfl rfl ?_
  refine sl_nil ?_
  refine sw_seq ?_
  refine sl_region ?_
  refine sl_mv rfl rfl rfl ?_
  refine sl_mv rfl rfl rfl ?_
  first
    | refine sl_len rfl rfl rfl ⟨_, u_67⟩ ?_
    | refine sl_len_sl rfl rfl rfl ⟨_, u_67⟩ ?_
    | refine sl_len_w _ rfl rfl rfl ⟨_, u_67⟩ ?_
  refine sl_conv_int rfl rfl rfl is_3 u_37 ?_
  refine sl_set 9 (.val (u64V al.length)) (len_u64m almV (by omega)) ?_
  refine sl_callf rfl rfl cal_77 (xnum_ok v l al.length σ (by omega) (by omega)) ?_ ?_ ?_ (fun _ _ h => h.elim)
  · repeat constructor
  · repeat constructor
  rintro _ _ ⟨v2, rfl, rfl⟩
  have hn1 := encNum_len (n := al.length) (by omega)
  refine sl_as rfl rfl rfl ?_
  refine sl_nil ?_
  refine sw_seq ?_
  refine sw_seq ?_
  refine sl_region ?_
  refine sl_as rfl rfl rfl ?_
  refine sl_nil ?_
  refine sw_block ?_
  refine sw_loopw (fun nX sX δX σX => ∃ (j : Nat) (v : Value) (m : List UInt8), (al.length - j) = nX ∧ sX = ⟨31, (.cons 0 (.own v (m.map byteV)) (.cons 1 (.val (.list (al.map almV))) (.cons 5 (.val (.int .i64 (j : Int))) .nil)))⟩ ∧ δX = [] ∧ σX = .spare v 1 :: σ ∧ (j ≤ al.length) ∧ (m = l ++ encNum al.length ++ (al.take j).flatMap encAlarm)) ?_ ?_
  · refine ⟨_, _, _, ?_, ?_, 0, v2, l ++ encNum al.length, rfl, rfl, rfl, rfl, Nat.zero_le _, by simp⟩
    · exact ⟨rfl, by repeat constructor⟩
    · repeat constructor
  rintro nX sX δX σX ⟨j, v, m, rfl, rfl, rfl, rfl, hj0, hm⟩
  refine sw_seq ?_
  refine sw_seq ?_
  refine sl_region ?_
  refine sl_mv rfl rfl rfl ?_
  refine sl_mv rfl rfl rfl ?_
  first
    | refine sl_len rfl rfl rfl ⟨_, u_67⟩ ?_
    | refine sl_len_sl rfl rfl rfl ⟨_, u_67⟩ ?_
    | refine sl_len_w _ rfl rfl rfl ⟨_, u_67⟩ ?_
  refine sl_bin rfl rfl rfl rfl rfl ?_
  refine sl_nil ?_
  refine sw_cond rfl (fun hj => ?_) (fun hj => ?_)
  · have hj : j < al.length := by simpa using hj
    have hao1 := ha al[j] (List.getElem_mem hj)
    have h1 := encInt_len hao1.1
    have hml : m.length + 20 ≤ 100000000 := by
      have := flat_len (f := encAlarm) (c := 20) (ns := al) (fun a h => encAlarm_len (ha a h)) j
      rw [hm]; simp only [List.length_append]; omega
    refine sw_skip ?_
    refine sw_seq ?_
    refine sw_block ?_
    refine sa_start [] mixed ?_
    refine sa_take 0 rfl rfl (by kernel_rfl) .nil (pu_mv rfl rfl) ?_
    refine sa_take 1 rfl rfl (by kernel_rfl) .nil (pu_mv rfl rfl) ?_
    refine sa_take 2 rfl rfl (by kernel_rfl) .nil (pu_mv rfl rfl) ?_
    refine sa_take 3 rfl rfl (by kernel_rfl) .nil (pu_indexAddr rfl rfl rfl u_67 sz_86 (by omega) (idx_map hj) rfl) ?_
    first
      | refine sa_take 4 rfl rfl (by kernel_rfl) .nil (pu_fieldAddr_ptr rfl rfl fo_86_0) ?_
      | refine sa_take 4 rfl rfl (by kernel_rfl) .nil (pu_fieldAddr_rp rfl rfl fo_86_0) ?_
      | refine sa_take 4 rfl rfl (by kernel_rfl) .nil (pu_fieldAddr_ref rfl rfl fo_86_0) ?_
    refine sa_take 5 rfl rfl (by kernel_rfl) .nil (pu_load_rp1 rfl rfl ag_3 rfl) ?_
    refine sa_take 7 rfl rfl (by kernel_rfl) .nil (pu_mv rfl rfl) ?_
    refine sa_take 8 rfl rfl (by kernel_rfl) .nil (pu_mv rfl rfl) ?_
    refine sa_take 9 rfl rfl (by kernel_rfl) .nil (pu_indexAddr rfl rfl rfl u_67 sz_86 (by omega) (idx_map hj) rfl) ?_
    first
      | refine sa_take 10 rfl rfl (by kernel_rfl) .nil (pu_fieldAddr_ptr rfl rfl fo_86_1) ?_
      | refine sa_take 10 rfl rfl (by kernel_rfl) .nil (pu_fieldAddr_rp rfl rfl fo_86_1) ?_
      | refine sa_take 10 rfl rfl (by kernel_rfl) .nil (pu_fieldAddr_ref rfl rfl fo_86_1) ?_
    refine sa_take 11 rfl rfl (by kernel_rfl) .nil (pu_load_rp1 rfl rfl ag_3 rfl) ?_
    refine sa_one 6 (by kernel_rfl) rfl ?_
    refine sl_callf rfl rfl cal_78 (xint_ok v m al[j].pos σ hao1.1 (by omega)) ?_ ?_ ?_ (fun _ _ h => h.elim)
    · repeat constructor
    · repeat constructor
    rintro _ _ ⟨v3, rfl, rfl⟩
    refine sl_nil ⟨.nil, ?_⟩
    refine sa_one 12 (by kernel_rfl) rfl ?_
    refine sl_callf rfl rfl cal_78 (xint_ok v3 (m ++ encInt al[j].pos) al[j].kind σ hao1.2 (by rw [List.length_append]; omega)) ?_ ?_ ?_ (fun _ _ h => h.elim)
    · repeat constructor
    · repeat constructor
    rintro _ _ ⟨v4, rfl, rfl⟩
    refine sl_nil ⟨.nil, ?_⟩
    refine sa_one 13 (by kernel_rfl) rfl ?_
    refine sl_as rfl rfl rfl ?_
    refine sl_nil ⟨.nil, ?_⟩
    refine sa_done (by kernel_rfl) ?_
    refine sl_region ?_
    refine sl_mv rfl rfl rfl ?_
    first
      | refine sl_inc rfl rfl rfl rfl (by omega) ?_
      | refine sl_add rfl rfl rfl rfl (by constructor <;> omega) ?_
      | refine sl_bin rfl rfl rfl rfl rfl ?_
    refine sl_as rfl rfl rfl ?_
    refine sl_nil ?_
    have e2 : m ++ encInt al[j].pos ++ encInt al[j].kind = l ++ encNum al.length ++ (al.take (j + 1)).flatMap encAlarm := by
      rw [flat_snoc hj, hm]; simp [encAlarm]
    refine ⟨_, by omega, _, _, ?_, ?_, j + 1, v4, _, rfl, rfl, rfl, rfl, by omega, e2⟩
    · exact ⟨rfl, by repeat constructor⟩
    · repeat constructor
  have hj : j = al.length := by have h9 : ¬ j < al.length := (by simpa using hj); omega
  subst hj
  rw [List.take_length] at hm
  have e3 : m = l ++ encAlarms al := by rw [hm]; simp [encAlarms]
  subst e3
  refine sw_exit ?_
  refine sw_seq ?_
  refine sl_region ?_
  refine sl_mv rfl rfl rfl ?_
  refine sl_as rfl rfl rfl ?_
  refine sl_nil ?_
  refine sw_ret ⟨rfl, _, _, res_one rfl rfl, ?_, ⟨v, rfl, rfl⟩⟩
  repeat constructor

/-- The document's summaries. -/
theorem xsumm_ok (v : Value) (l : List UInt8) (s : Smy) (σ : List Chunk) (hso : SmyOk s) (hsl : SmyLight s) (hl : l.length + 2000000 ≤ 100000000) :
    FSpec Try.prog 80 [.own v (l.map byteV), .val (smyV s)] (.spare v 1 :: σ) (fun d σ' => ∃ v', d = .own v' ((l ++ encSumm s).map byteV) ∧ σ' = .spare v' 1 :: σ) := by
  obtain ⟨hal, hmd, hnm⟩ := hsl
  obtain ⟨hao, hro, hmo⟩ := hso
  have hn1 := encNum_len (n := s.alarms.length) (by omega)
  have hn2 := encNum_len (n := s.mod.length) (by omega)
  have hb := encBool_len1 s.ends
  have hi := encIval_len hro
  have ha1 := flat_allc (f := encAlarm) (c := 20) (ns := s.alarms) (fun a ha => encAlarm_len (hao a ha))
  have ha2 : (encAlarms s.alarms).length ≤ 210 := by unfold encAlarms; rw [List.length_append]; omega
  refine spec_of_sw Try.func80 rfl ?_
  refine sw_seq ?_
  refine sl_region ?_
  refine sl_bx_imm rfl rfl rfl rfl rfl ?_
  refine sl_as rfl rfl rfl ?_
  refine sl_nil ?_
  refine sw_seq ?_
  refine sa_start [] mixed ?_
  refine sa_take 0 rfl rfl (by kernel_rfl) .nil (pu_mv rfl rfl) ?_
  first
    | refine sa_take 1 rfl rfl (by kernel_rfl) .nil (pu_fieldAddr_ptr rfl rfl fo_72_0) ?_
    | refine sa_take 1 rfl rfl (by kernel_rfl) .nil (pu_fieldAddr_rp rfl rfl fo_72_0) ?_
    | refine sa_take 1 rfl rfl (by kernel_rfl) .nil (pu_fieldAddr_ref rfl rfl fo_72_0) ?_
  refine sa_take 2 rfl rfl (by kernel_rfl) .nil (pu_load_rp1 rfl rfl ag_67 rfl) ?_
  first
    | refine sa_take 4 rfl rfl (by kernel_rfl) .nil (pu_fieldAddr_ptr rfl rfl fo_72_1) ?_
    | refine sa_take 4 rfl rfl (by kernel_rfl) .nil (pu_fieldAddr_rp rfl rfl fo_72_1) ?_
    | refine sa_take 4 rfl rfl (by kernel_rfl) .nil (pu_fieldAddr_ref rfl rfl fo_72_1) ?_
  refine sa_take 5 rfl rfl (by kernel_rfl) .nil (pu_load_rp1 rfl rfl ag_4 rfl) ?_
  first
    | refine sa_take 7 rfl rfl (by kernel_rfl) .nil (pu_fieldAddr_ptr rfl rfl fo_72_2) ?_
    | refine sa_take 7 rfl rfl (by kernel_rfl) .nil (pu_fieldAddr_rp rfl rfl fo_72_2) ?_
    | refine sa_take 7 rfl rfl (by kernel_rfl) .nil (pu_fieldAddr_ref rfl rfl fo_72_2) ?_
  refine sa_take 8 rfl rfl (by kernel_rfl) .nil (pu_load_rpn rfl rfl ag_69 sz_69 (Nat.le_of_ble_eq_true rfl)) ?_
  refine sa_one 3 (by kernel_rfl) rfl ?_
  refine sl_callf rfl rfl cal_91 (xalarms_ok v l s.alarms σ hao (by omega) (by omega)) ?_ ?_ ?_ (fun _ _ h => h.elim)
  · repeat constructor
  · repeat constructor
  rintro _ _ ⟨v2, rfl, rfl⟩
  refine sl_nil ⟨.nil, ?_⟩
  refine sa_one 6 (by kernel_rfl) rfl ?_
  refine sl_callf rfl rfl cal_79 (xbool_ok v2 (l ++ encAlarms s.alarms) s.ends σ (by rw [List.length_append]; omega)) ?_ ?_ ?_ (fun _ _ h => h.elim)
  · repeat constructor
  · repeat constructor
  rintro _ _ ⟨v3, rfl, rfl⟩
  refine sl_nil ⟨.nil, ?_⟩
  refine sa_one 9 (by kernel_rfl) rfl ?_
  refine sl_callf rfl rfl cal_99 (xival_ok v3 (l ++ encAlarms s.alarms ++ encBool s.ends) s.ret σ hro (by simp only [List.length_append]; omega)) ?_ ?_ ?_ (fun _ _ h => h.elim)
  · repeat constructor
  · repeat constructor
  rintro _ _ ⟨v4, rfl, rfl⟩
  refine sl_nil ⟨.nil, ?_⟩
  refine sa_one 10 (by kernel_rfl) rfl ?_
  refine sl_as rfl rfl rfl ?_
  refine sl_nil ⟨.nil, ?_⟩
  refine sa_done (by kernel_rfl) ?_
  refine sw_seq ?_
  refine sl_region ?_
  refine sl_mv rfl rfl rfl ?_
  first
    | refine sl_fieldAddr_ptr rfl rfl rfl fo_72_3 ?_
    | refine sl_fieldAddr_rp rfl rfl rfl fo_72_3 ?_
    | refine sl_fieldAddr_ref rfl rfl rfl fo_72_3 ?_
  first
    | refine sl_load_rp1 rfl rfl rfl ag_70 rfl ?_
    | refine sl_load_blk1 rfl rfl rfl ag_70 (by repeat constructor) rfl ?_
  first
    | refine sl_len rfl rfl rfl ⟨_, u_70⟩ ?_
    | refine sl_len_sl rfl rfl rfl ⟨_, u_70⟩ ?_
    | refine sl_len_w _ rfl rfl rfl ⟨_, u_70⟩ ?_
  refine sl_conv_int rfl rfl rfl is_3 u_37 ?_
  refine sl_set 20 (.val (u64V s.mod.length)) (len_u64m nmdV (by omega)) ?_
  refine sl_callf rfl rfl cal_77 (xnum_ok v4 (l ++ encAlarms s.alarms ++ encBool s.ends ++ encIval s.ret) s.mod.length σ (by omega) (by simp only [List.length_append]; omega)) ?_ ?_ ?_ (fun _ _ h => h.elim)
  · repeat constructor
  · repeat constructor
  rintro _ _ ⟨v5, rfl, rfl⟩
  obtain ⟨m3, hm3⟩ : ∃ m3, m3 = l ++ encAlarms s.alarms ++ encBool s.ends ++ encIval s.ret ++ encNum s.mod.length := ⟨_, rfl⟩
  rw [← hm3]
  have hm3l : m3.length ≤ l.length + 252 := by rw [hm3]; simp only [List.length_append]; omega
  refine sl_as rfl rfl rfl ?_
  refine sl_nil ?_
  refine sw_seq ?_
  refine sw_seq ?_
  refine sl_region ?_
  refine sl_as rfl rfl rfl ?_
  refine sl_nil ?_
  refine sw_block ?_
  refine sw_loopw (fun nX sX δX σX => ∃ (j : Nat) (v : Value) (m4 : List UInt8), (s.mod.length - j) = nX ∧ sX = ⟨45, (.cons 0 (.own v (m4.map byteV)) (.cons 3 (.rp (smyCells s)) (.cons 5 (.val (.int .i64 (j : Int))) .nil)))⟩ ∧ δX = [] ∧ σX = .spare v 1 :: σ ∧ (j ≤ s.mod.length) ∧ (m4 = m3 ++ (s.mod.take j).flatMap encNamed)) ?_ ?_
  · refine ⟨_, _, _, ?_, ?_, 0, v5, m3, rfl, rfl, rfl, rfl, Nat.zero_le _, by simp⟩
    · exact ⟨rfl, by repeat constructor⟩
    · repeat constructor
  rintro nX sX δX σX ⟨j, v, m4, rfl, rfl, rfl, rfl, hj0, hm4⟩
  refine sw_seq ?_
  refine sw_seq ?_
  refine sl_region ?_
  refine sl_mv rfl rfl rfl ?_
  first
    | refine sl_fieldAddr_ptr rfl rfl rfl fo_72_3 ?_
    | refine sl_fieldAddr_rp rfl rfl rfl fo_72_3 ?_
    | refine sl_fieldAddr_ref rfl rfl rfl fo_72_3 ?_
  first
    | refine sl_load_rp1 rfl rfl rfl ag_70 rfl ?_
    | refine sl_load_blk1 rfl rfl rfl ag_70 (by repeat constructor) rfl ?_
  first
    | refine sl_len rfl rfl rfl ⟨_, u_70⟩ ?_
    | refine sl_len_sl rfl rfl rfl ⟨_, u_70⟩ ?_
    | refine sl_len_w _ rfl rfl rfl ⟨_, u_70⟩ ?_
  refine sl_bin rfl rfl rfl rfl rfl ?_
  refine sl_nil ?_
  refine sw_cond rfl (fun hj => ?_) (fun hj => ?_)
  · have hj : j < s.mod.length := by simpa using hj
    have hmo1 := hmo s.mod[j] (List.getElem_mem hj)
    have hnm1 := hnm s.mod[j] (List.getElem_mem hj)
    have hm4l : m4.length + 1500000 ≤ 100000000 := by
      have := flat_len (f := encNamed) (c := 81) (ns := s.mod) (fun a ha => encNamed_len (hmo a ha) (hnm a ha)) j
      rw [hm4]; simp only [List.length_append]; omega
    have ht5 := encText_lenc hnm1 (by decide)
    refine sw_skip ?_
    refine sw_seq ?_
    refine sw_block ?_
    refine sa_start [] mixed ?_
    refine sa_take 0 rfl rfl (by kernel_rfl) .nil (pu_mv rfl rfl) ?_
    first
      | refine sa_take 1 rfl rfl (by kernel_rfl) .nil (pu_fieldAddr_ptr rfl rfl fo_72_3) ?_
      | refine sa_take 1 rfl rfl (by kernel_rfl) .nil (pu_fieldAddr_rp rfl rfl fo_72_3) ?_
      | refine sa_take 1 rfl rfl (by kernel_rfl) .nil (pu_fieldAddr_ref rfl rfl fo_72_3) ?_
    refine sa_take 2 rfl rfl (by kernel_rfl) .nil (pu_load_rp1 rfl rfl ag_70 rfl) ?_
    refine sa_take 3 rfl rfl (by kernel_rfl) .nil (pu_mv rfl rfl) ?_
    refine sa_take 4 rfl rfl (by kernel_rfl) .nil (pu_indexAddr rfl rfl rfl u_70 sz_127 (by omega) (idx_map hj) rfl) ?_
    first
      | refine sa_take 5 rfl rfl (by kernel_rfl) .nil (pu_fieldAddr_ptr rfl rfl fo_127_0) ?_
      | refine sa_take 5 rfl rfl (by kernel_rfl) .nil (pu_fieldAddr_rp rfl rfl fo_127_0) ?_
      | refine sa_take 5 rfl rfl (by kernel_rfl) .nil (pu_fieldAddr_ref rfl rfl fo_127_0) ?_
    refine sa_take 6 rfl rfl (by kernel_rfl) .nil (pu_load_rp1 rfl rfl ag_9 rfl) ?_
    first
      | refine sa_take 8 rfl rfl (by kernel_rfl) .nil (pu_fieldAddr_ptr rfl rfl fo_72_3) ?_
      | refine sa_take 8 rfl rfl (by kernel_rfl) .nil (pu_fieldAddr_rp rfl rfl fo_72_3) ?_
      | refine sa_take 8 rfl rfl (by kernel_rfl) .nil (pu_fieldAddr_ref rfl rfl fo_72_3) ?_
    refine sa_take 9 rfl rfl (by kernel_rfl) .nil (pu_load_rp1 rfl rfl ag_70 rfl) ?_
    refine sa_take 10 rfl rfl (by kernel_rfl) .nil (pu_mv rfl rfl) ?_
    refine sa_take 11 rfl rfl (by kernel_rfl) .nil (pu_indexAddr rfl rfl rfl u_70 sz_127 (by omega) (idx_map hj) rfl) ?_
    first
      | refine sa_take 12 rfl rfl (by kernel_rfl) .nil (pu_fieldAddr_ptr rfl rfl fo_127_1) ?_
      | refine sa_take 12 rfl rfl (by kernel_rfl) .nil (pu_fieldAddr_rp rfl rfl fo_127_1) ?_
      | refine sa_take 12 rfl rfl (by kernel_rfl) .nil (pu_fieldAddr_ref rfl rfl fo_127_1) ?_
    refine sa_take 13 rfl rfl (by kernel_rfl) .nil (pu_load_rpn rfl rfl ag_69 sz_69 (Nat.le_of_ble_eq_true rfl)) ?_
    refine sa_one 7 (by kernel_rfl) rfl ?_
    refine sl_callf rfl rfl cal_39 (xtext_ok v m4 s.mod[j].name σ (by omega) (by omega)) ?_ ?_ ?_ (fun _ _ h => h.elim)
    · repeat constructor
    · repeat constructor
    rintro _ _ ⟨v6, rfl, rfl⟩
    refine sl_nil ⟨.nil, ?_⟩
    refine sa_one 14 (by kernel_rfl) rfl ?_
    refine sl_callf rfl rfl cal_99 (xival_ok v6 (m4 ++ encText s.mod[j].name) s.mod[j].v σ hmo1 (by rw [List.length_append]; omega)) ?_ ?_ ?_ (fun _ _ h => h.elim)
    · repeat constructor
    · repeat constructor
    rintro _ _ ⟨v7, rfl, rfl⟩
    refine sl_nil ⟨.nil, ?_⟩
    refine sa_one 15 (by kernel_rfl) rfl ?_
    refine sl_as rfl rfl rfl ?_
    refine sl_nil ⟨.nil, ?_⟩
    refine sa_done (by kernel_rfl) ?_
    refine sl_region ?_
    refine sl_mv rfl rfl rfl ?_
    first
      | refine sl_inc rfl rfl rfl rfl (by omega) ?_
      | refine sl_add rfl rfl rfl rfl (by constructor <;> omega) ?_
      | refine sl_bin rfl rfl rfl rfl rfl ?_
    refine sl_as rfl rfl rfl ?_
    refine sl_nil ?_
    have e6 : m4 ++ encText s.mod[j].name ++ encIval s.mod[j].v = m3 ++ (s.mod.take (j + 1)).flatMap encNamed := by
      rw [flat_snoc hj, hm4]; simp [encNamed]
    refine ⟨_, by omega, _, _, ?_, ?_, j + 1, v7, _, rfl, rfl, rfl, rfl, by omega, e6⟩
    · exact ⟨rfl, by repeat constructor⟩
    · repeat constructor
  have hj : j = s.mod.length := by have h9 : ¬ j < s.mod.length := (by simpa using hj); omega
  subst hj
  rw [List.take_length] at hm4
  have e7 : m4 = l ++ encSumm s := by rw [hm4, hm3]; simp [encSumm]
  subst e7
  refine sw_exit ?_
  refine sw_seq ?_
  refine sl_region ?_
  refine sl_mv rfl rfl rfl ?_
  refine sl_as rfl rfl rfl ?_
  refine sl_nil ?_
  refine sw_ret ⟨rfl, _, _, res_one rfl rfl, ?_, ⟨v, rfl, rfl⟩⟩
  repeat constructor

end Go.Proofs.Ytioechdfghglhaa

/- Walks: printed by a program of this session out of its script CodeJ. -/
namespace Go.Proofs.Ytioechdfghglhaa
set_option linter.unusedVariables false
set_option linter.unusedSimpArgs false
set_option maxRecDepth 4000
set_option maxHeartbeats 4000000
open Go Go.RowKit SL


theorem lightS_ok (s : Smy) (σ : List Chunk) : FSpec Try.prog 76 [.val (smyV s)] σ (fun d σ' => ∃ b, d = .val (.bool b) ∧ (b = true → SmyLight s) ∧ σ' = σ) := by
  refine spec_of_sw Try.func76 rfl ?_
  refine sw_seq ?_
  refine sl_region ?_
  refine sl_bx_imm rfl rfl rfl rfl rfl ?_
  refine sl_as rfl rfl rfl ?_
  refine sl_nil ?_
  refine sw_seq ?_
  refine sw_seq ?_
  refine sl_region ?_
  first
    | refine sl_fieldAddr_ptr rfl rfl rfl fo_72_0 ?_
    | refine sl_fieldAddr_rp rfl rfl rfl fo_72_0 ?_
    | refine sl_fieldAddr_ref rfl rfl rfl fo_72_0 ?_
  first
    | refine sl_load_rp1 rfl rfl rfl ag_67 rfl ?_
    | refine sl_load_blk1 rfl rfl rfl ag_67 (by repeat constructor) rfl ?_
  first
    | refine sl_len rfl rfl rfl ⟨_, u_67⟩ ?_
    | refine sl_len_sl rfl rfl rfl ⟨_, u_67⟩ ?_
    | refine sl_len_w _ rfl rfl rfl ⟨_, u_67⟩ ?_
  refine sl_bin rfl rfl rfl rfl rfl ?_
  refine sl_mv rfl rfl rfl ?_
  refine sl_case_at 8 rfl (fun h1 => ?_) (fun h1 => ?_)
  · refine sl_guard_n rfl rfl rfl h1 ?_
    refine sl_guard_n rfl rfl rfl h1 ?_
    refine sl_guard_n rfl rfl rfl h1 ?_
    refine sl_guard_n rfl rfl rfl h1 ?_
    refine sl_pk_t rfl rfl rfl h1 rfl ?_
    refine sl_nil ?_
    refine sw_true rfl (rfl) ?_
    refine sw_seq ?_
    refine sl_region ?_
    refine sl_as rfl rfl rfl ?_
    refine sl_nil ?_
    refine sw_ret ⟨rfl, _, _, res_one rfl rfl, ?_, ⟨false, rfl, fun h => absurd h (by decide), rfl⟩⟩
    repeat constructor
  refine sl_guard_y rfl rfl rfl h1 ?_
  first
    | refine sl_fieldAddr_ptr rfl rfl rfl fo_72_3 ?_
    | refine sl_fieldAddr_rp rfl rfl rfl fo_72_3 ?_
    | refine sl_fieldAddr_ref rfl rfl rfl fo_72_3 ?_
  refine sl_guard_y rfl rfl rfl h1 ?_
  first
    | refine sl_load_rp1 rfl rfl rfl ag_70 rfl ?_
    | refine sl_load_blk1 rfl rfl rfl ag_70 (by repeat constructor) rfl ?_
  refine sl_guard_y rfl rfl rfl h1 ?_
  first
    | refine sl_len rfl rfl rfl ⟨_, u_70⟩ ?_
    | refine sl_len_sl rfl rfl rfl ⟨_, u_70⟩ ?_
    | refine sl_len_w _ rfl rfl rfl ⟨_, u_70⟩ ?_
  refine sl_guard_y rfl rfl rfl h1 ?_
  refine sl_bin rfl rfl rfl rfl rfl ?_
  refine sl_pk_f rfl rfl rfl h1 rfl ?_
  refine sl_nil ?_
  refine sw_cond rfl (fun h2 => ?_) (fun h2 => ?_)
  · refine sw_seq ?_
    refine sl_region ?_
    refine sl_as rfl rfl rfl ?_
    refine sl_nil ?_
    refine sw_ret ⟨rfl, _, _, res_one rfl rfl, ?_, ⟨false, rfl, fun h => absurd h (by decide), rfl⟩⟩
    repeat constructor
  have h1 : s.alarms.length ≤ 10 := by have := of_decide_eq_false h1; simp only [List.length_map] at this; omega
  have h2 : s.mod.length ≤ 10 := by have := of_decide_eq_false h2; simp only [List.length_map] at this; omega
  refine sw_skip ?_
  refine sw_seq ?_
  refine sw_seq ?_
  refine sl_region ?_
  refine sl_as rfl rfl rfl ?_
  refine sl_nil ?_
  refine sw_block ?_
  refine sw_loopw (fun nX sX δX σX => ∃ (k : Nat), (s.mod.length - k) = nX ∧ sX = ⟨29, (.cons 1 (.rp (smyCells s)) (.cons 3 (.val (.int .i64 (k : Int))) .nil))⟩ ∧ δX = [] ∧ σX = σ ∧ (k ≤ s.mod.length) ∧ (∀ m ∈ s.mod.take k, m.name.length ≤ 50)) ?_ ?_
  · refine ⟨_, _, _, ?_, ?_, 0, rfl, rfl, rfl, rfl, Nat.zero_le _, by simp⟩
    · exact ⟨rfl, by repeat constructor⟩
    · repeat constructor
  rintro nX sX δX σX ⟨k, rfl, rfl, rfl, rfl, hk0, hss⟩
  refine sw_seq ?_
  refine sw_seq ?_
  refine sl_region ?_
  refine sl_mv rfl rfl rfl ?_
  first
    | refine sl_fieldAddr_ptr rfl rfl rfl fo_72_3 ?_
    | refine sl_fieldAddr_rp rfl rfl rfl fo_72_3 ?_
    | refine sl_fieldAddr_ref rfl rfl rfl fo_72_3 ?_
  first
    | refine sl_load_rp1 rfl rfl rfl ag_70 rfl ?_
    | refine sl_load_blk1 rfl rfl rfl ag_70 (by repeat constructor) rfl ?_
  first
    | refine sl_len rfl rfl rfl ⟨_, u_70⟩ ?_
    | refine sl_len_sl rfl rfl rfl ⟨_, u_70⟩ ?_
    | refine sl_len_w _ rfl rfl rfl ⟨_, u_70⟩ ?_
  refine sl_bin rfl rfl rfl rfl rfl ?_
  refine sl_nil ?_
  refine sw_cond rfl (fun hk => ?_) (fun hk => ?_)
  · have hk : k < s.mod.length := by simpa using hk
    refine sw_skip ?_
    refine sw_seq ?_
    refine sw_block ?_
    refine sw_seq ?_
    refine sl_region ?_
    first
      | refine sl_fieldAddr_ptr rfl rfl rfl fo_72_3 ?_
      | refine sl_fieldAddr_rp rfl rfl rfl fo_72_3 ?_
      | refine sl_fieldAddr_ref rfl rfl rfl fo_72_3 ?_
    first
      | refine sl_load_rp1 rfl rfl rfl ag_70 rfl ?_
      | refine sl_load_blk1 rfl rfl rfl ag_70 (by repeat constructor) rfl ?_
    refine sl_mv rfl rfl rfl ?_
    refine sl_indexAddr' rfl rfl rfl rfl u_70 sz_127 (by omega) (idx_map hk) rfl ?_
    first
      | refine sl_fieldAddr_ptr rfl rfl rfl fo_127_0 ?_
      | refine sl_fieldAddr_rp rfl rfl rfl fo_127_0 ?_
      | refine sl_fieldAddr_ref rfl rfl rfl fo_127_0 ?_
    first
      | refine sl_load_rp1 rfl rfl rfl ag_9 rfl ?_
      | refine sl_load_blk1 rfl rfl rfl ag_9 (by repeat constructor) rfl ?_
    refine sl_len_str rfl rfl rfl u_9 ?_
    refine sl_bin rfl rfl rfl rfl rfl ?_
    refine sl_nil ?_
    refine sw_cond rfl (fun hlong => ?_) (fun hlong => ?_)
    · refine sw_seq ?_
      refine sl_region ?_
      refine sl_as rfl rfl rfl ?_
      refine sl_nil ?_
      refine sw_ret ⟨rfl, _, _, res_one rfl rfl, ?_, ⟨false, rfl, fun h => absurd h (by decide), rfl⟩⟩
      repeat constructor
    have hs1 : s.mod[k].name.length ≤ 50 := by have := of_decide_eq_false hlong; omega
    refine sw_skip ?_
    refine sl_region ?_
    refine sl_mv rfl rfl rfl ?_
    first
      | refine sl_inc rfl rfl rfl rfl (by omega) ?_
      | refine sl_add rfl rfl rfl rfl (by constructor <;> omega) ?_
      | refine sl_bin rfl rfl rfl rfl rfl ?_
    refine sl_as rfl rfl rfl ?_
    refine sl_nil ?_
    refine ⟨_, by omega, _, _, ?_, ?_, k + 1, rfl, rfl, rfl, rfl, by omega, all_take_snoc hss hk hs1⟩
    · exact ⟨rfl, by repeat constructor⟩
    · repeat constructor
  have hk : k = s.mod.length := by have h9 : ¬ k < s.mod.length := (by simpa using hk); omega
  subst hk
  rw [List.take_length] at hss
  refine sw_exit ?_
  refine sw_seq ?_
  refine sl_region ?_
  refine sl_as rfl rfl rfl ?_
  refine sl_nil ?_
  refine sw_ret ⟨rfl, _, _, res_one rfl rfl, ?_, ⟨true, rfl, fun _ => ⟨h1, h2, hss⟩, rfl⟩⟩
  repeat constructor

theorem light_ok (ps : List Prt) (σ : List Chunk) : FSpec Try.prog 35 [.val (.list (ps.map prtV))] σ (fun d σ' => ∃ b, d = .val (.bool b) ∧ (b = true → ps.length ≤ 12 ∧ ∀ p ∈ ps, PrtLight p) ∧ σ' = σ) := by
  refine spec_of_sw Try.func35 rfl ?_
  refine sw_seq ?_
  refine sl_region ?_
  refine sl_as rfl rfl rfl ?_
  refine sl_nil ?_
  refine sw_seq ?_
  refine sw_seq ?_
  refine sl_region ?_
  refine sl_mv rfl rfl rfl ?_
  first
    | refine sl_len rfl rfl rfl ⟨_, u_64⟩ ?_
    | refine sl_len_sl rfl rfl rfl ⟨_, u_64⟩ ?_
    | refine sl_len_w _ rfl rfl rfl ⟨_, u_64⟩ ?_
  refine sl_bin rfl rfl rfl rfl rfl ?_
  refine sl_nil ?_
  refine sw_cond rfl (fun h1 => ?_) (fun h1 => ?_)
  · refine sw_seq ?_
    refine sl_region ?_
    refine sl_as rfl rfl rfl ?_
    refine sl_nil ?_
    refine sw_ret ⟨rfl, _, _, res_one rfl rfl, ?_, ⟨false, rfl, fun h => absurd h (by decide), rfl⟩⟩
    repeat constructor
  have h1 : ps.length ≤ 12 := by have := of_decide_eq_false h1; simp only [List.length_map] at this; omega
  refine sw_skip ?_
  refine sw_seq ?_
  refine sw_seq ?_
  refine sl_region ?_
  refine sl_as rfl rfl rfl ?_
  refine sl_nil ?_
  refine sw_block ?_
  refine sw_loopw (fun nX sX δX σX => ∃ (k : Nat), (ps.length - k) = nX ∧ sX = ⟨29, (.cons 0 (.val (.list (ps.map prtV))) (.cons 3 (.val (.int .i64 (k : Int))) .nil))⟩ ∧ δX = [] ∧ σX = σ ∧ (k ≤ ps.length) ∧ (∀ m ∈ ps.take k, PrtLight m)) ?_ ?_
  · refine ⟨_, _, _, ?_, ?_, 0, rfl, rfl, rfl, rfl, Nat.zero_le _, by simp⟩
    · exact ⟨rfl, by repeat constructor⟩
    · repeat constructor
  rintro nX sX δX σX ⟨k, rfl, rfl, rfl, rfl, hk0, hss⟩
  refine sw_seq ?_
  refine sw_seq ?_
  refine sl_region ?_
  refine sl_mv rfl rfl rfl ?_
  refine sl_mv rfl rfl rfl ?_
  first
    | refine sl_len rfl rfl rfl ⟨_, u_64⟩ ?_
    | refine sl_len_sl rfl rfl rfl ⟨_, u_64⟩ ?_
    | refine sl_len_w _ rfl rfl rfl ⟨_, u_64⟩ ?_
  refine sl_bin rfl rfl rfl rfl rfl ?_
  refine sl_nil ?_
  refine sw_cond rfl (fun hk => ?_) (fun hk => ?_)
  · have hk : k < ps.length := by simpa using hk
    refine sw_skip ?_
    refine sw_seq ?_
    refine sw_block ?_
    refine sw_seq ?_
    refine sl_region ?_
    refine sl_mv rfl rfl rfl ?_
    refine sl_mv rfl rfl rfl ?_
    refine sl_indexAddr' rfl rfl rfl rfl u_64 sz_74 (by omega) (idx_map hk) rfl ?_
    first
      | refine sl_fieldAddr_ptr rfl rfl rfl fo_74_2 ?_
      | refine sl_fieldAddr_rp rfl rfl rfl fo_74_2 ?_
      | refine sl_fieldAddr_ref rfl rfl rfl fo_74_2 ?_
    first
      | refine sl_load_rp1 rfl rfl rfl ag_9 rfl ?_
      | refine sl_load_blk1 rfl rfl rfl ag_9 (by repeat constructor) rfl ?_
    refine sl_len_str rfl rfl rfl u_9 ?_
    refine sl_bin rfl rfl rfl rfl rfl ?_
    refine sl_mv rfl rfl rfl ?_
    refine sl_case_at 20 rfl (fun h2 => ?_) (fun h2 => ?_)
    · refine sl_guard_n rfl rfl rfl h2 ?_
      refine sl_guard_n rfl rfl rfl h2 ?_
      refine sl_guard_n rfl rfl rfl h2 ?_
      refine sl_guard_n rfl rfl rfl h2 ?_
      refine sl_guard_n rfl rfl rfl h2 ?_
      refine sl_guard_n rfl rfl rfl h2 ?_
      refine sl_guard_n rfl rfl rfl h2 ?_
      refine sl_pk_t rfl rfl rfl h2 rfl ?_
      refine sl_nil ?_
      refine sw_true rfl (rfl) ?_
      refine sw_seq ?_
      refine sl_region ?_
      refine sl_as rfl rfl rfl ?_
      refine sl_nil ?_
      refine sw_ret ⟨rfl, _, _, res_one rfl rfl, ?_, ⟨false, rfl, fun h => absurd h (by decide), rfl⟩⟩
      repeat constructor
    have h3 : ps[k].t.length ≤ 100 := by have := of_decide_eq_false h2; omega
    refine sl_guard_y rfl rfl rfl h2 ?_
    refine sl_mv rfl rfl rfl ?_
    refine sl_guard_y rfl rfl rfl h2 ?_
    refine sl_mv rfl rfl rfl ?_
    refine sl_guard_y rfl rfl rfl h2 ?_
    refine sl_indexAddr' rfl rfl rfl rfl u_64 sz_74 (by omega) (idx_map hk) rfl ?_
    refine sl_guard_y rfl rfl rfl h2 ?_
    first
      | refine sl_fieldAddr_ptr rfl rfl rfl fo_74_3 ?_
      | refine sl_fieldAddr_rp rfl rfl rfl fo_74_3 ?_
      | refine sl_fieldAddr_ref rfl rfl rfl fo_74_3 ?_
    refine sl_guard_y rfl rfl rfl h2 ?_
    first
      | refine sl_load_rpn rfl rfl rfl ag_72 sz_72 (Nat.le_of_ble_eq_true rfl) ?_
      | refine sl_load_blkn rfl rfl rfl ag_72 sz_72 (by repeat constructor) (Nat.le_of_ble_eq_true rfl) ?_
      | refine sl_load_ref rfl rfl rfl ag_72 sz_72 (Nat.le_of_ble_eq_true rfl) ?_
    refine sl_guard_y rfl rfl rfl h2 ?_
    refine sl_callf rfl rfl cal_76 (lightS_ok ps[k].s σX) ?_ ?_ ?_ (fun _ _ h => h.elim)
    · repeat constructor
    · repeat constructor
    rintro _ _ ⟨b, rfl, hb, rfl⟩
    refine sl_guard_y rfl rfl rfl h2 ?_
    refine sl_not rfl rfl rfl ?_
    refine sl_pk_f rfl rfl rfl h2 rfl ?_
    refine sl_nil ?_
    refine sw_cond rfl (fun h4 => ?_) (fun h4 => ?_)
    · refine sw_seq ?_
      refine sl_region ?_
      refine sl_as rfl rfl rfl ?_
      refine sl_nil ?_
      refine sw_ret ⟨rfl, _, _, res_one rfl rfl, ?_, ⟨false, rfl, fun h => absurd h (by decide), rfl⟩⟩
      repeat constructor
    have hb1 : b = true := by simpa using h4
    refine sw_skip ?_
    refine sl_region ?_
    refine sl_mv rfl rfl rfl ?_
    first
      | refine sl_inc rfl rfl rfl rfl (by omega) ?_
      | refine sl_add rfl rfl rfl rfl (by constructor <;> omega) ?_
      | refine sl_bin rfl rfl rfl rfl rfl ?_
    refine sl_as rfl rfl rfl ?_
    refine sl_nil ?_
    refine ⟨_, by omega, _, _, ?_, ?_, k + 1, rfl, rfl, rfl, rfl, by omega, all_take_snoc hss hk ⟨h3, hb hb1⟩⟩
    · exact ⟨rfl, by repeat constructor⟩
    · repeat constructor
  have hk : k = ps.length := by have h9 : ¬ k < ps.length := (by simpa using hk); omega
  subst hk
  rw [List.take_length] at hss
  refine sw_exit ?_
  refine sw_seq ?_
  refine sl_region ?_
  refine sl_as rfl rfl rfl ?_
  refine sl_nil ?_
  refine sw_ret ⟨rfl, _, _, res_one rfl rfl, ?_, ⟨true, rfl, fun _ => ⟨h1, hss⟩, rfl⟩⟩
  repeat constructor

/-- put: a part as the document's bytes. -/
theorem put_ok (v : Value) (l : List UInt8) (p : Prt) (σ : List Chunk) (hok : PrtOk p) (hlt : PrtLight p) (hl : l.length + 2000000 ≤ 100000000) :
    FSpec Try.prog 36 [.own v (l.map byteV), .val (prtV p)] (.spare v 1 :: σ) (fun d σ' => ∃ v', d = .own v' ((l ++ encPart p).map byteV) ∧ σ' = .spare v' 1 :: σ) := by
  refine spec_of_sw Try.func36 rfl ?_
  refine sw_seq ?_
  refine sl_region ?_
  refine sl_bx_imm rfl rfl rfl rfl rfl ?_
  refine sl_as rfl rfl rfl ?_
  refine sl_nil ?_
  refine sw_seq ?_
  refine sw_seq ?_
  refine sl_region ?_
  first
    | refine sl_fieldAddr_ptr rfl rfl rfl fo_74_0 ?_
    | refine sl_fieldAddr_rp rfl rfl rfl fo_74_0 ?_
    | refine sl_fieldAddr_ref rfl rfl rfl fo_74_0 ?_
  first
    | refine sl_load_rp1 rfl rfl rfl ag_5 rfl ?_
    | refine sl_load_blk1 rfl rfl rfl ag_5 (by repeat constructor) rfl ?_
  refine sl_rem rfl rfl rfl rfl (by decide) ?_
  refine sl_set 7 (.val (.int .u8 ((p.what.toNat % 5 : Nat) : Int))) (rem5 p.what) ?_
  refine sl_nil ?_
  refine sw_block ?_
  refine sw_seq ?_
  refine sl_region ?_
  refine sl_bin rfl rfl rfl rfl rfl ?_
  refine sl_as rfl rfl rfl ?_
  refine sl_nil ?_
  refine sw_cond rfl (fun h0 => ?_) (fun h0 => ?_)
  · rw [encPart0 (eq5 h0)]
    refine sw_seq ?_
    refine sl_region ?_
    refine sl_mv rfl rfl rfl ?_
    first
      | refine sl_fieldAddr_ptr rfl rfl rfl fo_74_1 ?_
      | refine sl_fieldAddr_rp rfl rfl rfl fo_74_1 ?_
      | refine sl_fieldAddr_ref rfl rfl rfl fo_74_1 ?_
    first
      | refine sl_load_rp1 rfl rfl rfl ag_37 rfl ?_
      | refine sl_load_blk1 rfl rfl rfl ag_37 (by repeat constructor) rfl ?_
    refine sl_callf rfl rfl cal_77 (xnum_ok v l p.n σ hok.1 (by omega)) ?_ ?_ ?_ (fun _ _ h => h.elim)
    · repeat constructor
    · repeat constructor
    rintro _ _ ⟨v2, rfl, rfl⟩
    refine sl_as rfl rfl rfl ?_
    refine sl_nil ?_
    refine sw_ret ⟨rfl, _, _, res_one rfl rfl, ?_, ⟨v2, rfl, rfl⟩⟩
    repeat constructor
  refine sw_seq ?_
  refine sl_region ?_
  refine sl_bin rfl rfl rfl rfl rfl ?_
  refine sl_as rfl rfl rfl ?_
  refine sl_nil ?_
  refine sw_cond rfl (fun h1 => ?_) (fun h1 => ?_)
  · rw [encPart1 (eq5 h1)]
    refine sw_seq ?_
    refine sl_region ?_
    refine sl_mv rfl rfl rfl ?_
    first
      | refine sl_fieldAddr_ptr rfl rfl rfl fo_74_1 ?_
      | refine sl_fieldAddr_rp rfl rfl rfl fo_74_1 ?_
      | refine sl_fieldAddr_ref rfl rfl rfl fo_74_1 ?_
    first
      | refine sl_load_rp1 rfl rfl rfl ag_37 rfl ?_
      | refine sl_load_blk1 rfl rfl rfl ag_37 (by repeat constructor) rfl ?_
    refine sl_conv_int rfl rfl rfl is_37 u_2 ?_
    refine sl_callf rfl rfl cal_78 (xint_ok v l (IntKind.i64.wrap p.n) σ (wrap_i64_ok _) (by omega)) ?_ ?_ ?_ (fun _ _ h => h.elim)
    · repeat constructor
    · repeat constructor
    rintro _ _ ⟨v2, rfl, rfl⟩
    refine sl_as rfl rfl rfl ?_
    refine sl_nil ?_
    refine sw_ret ⟨rfl, _, _, res_one rfl rfl, ?_, ⟨v2, rfl, rfl⟩⟩
    repeat constructor
  refine sw_seq ?_
  refine sl_region ?_
  refine sl_bin rfl rfl rfl rfl rfl ?_
  refine sl_as rfl rfl rfl ?_
  refine sl_nil ?_
  refine sw_cond rfl (fun h2 => ?_) (fun h2 => ?_)
  · rw [encPart2 (eq5 h2)]
    have := hlt.1
    refine sw_seq ?_
    refine sl_region ?_
    refine sl_mv rfl rfl rfl ?_
    first
      | refine sl_fieldAddr_ptr rfl rfl rfl fo_74_2 ?_
      | refine sl_fieldAddr_rp rfl rfl rfl fo_74_2 ?_
      | refine sl_fieldAddr_ref rfl rfl rfl fo_74_2 ?_
    first
      | refine sl_load_rp1 rfl rfl rfl ag_9 rfl ?_
      | refine sl_load_blk1 rfl rfl rfl ag_9 (by repeat constructor) rfl ?_
    refine sl_callf rfl rfl cal_39 (xtext_ok v l p.t σ (by omega) (by omega)) ?_ ?_ ?_ (fun _ _ h => h.elim)
    · repeat constructor
    · repeat constructor
    rintro _ _ ⟨v2, rfl, rfl⟩
    refine sl_as rfl rfl rfl ?_
    refine sl_nil ?_
    refine sw_ret ⟨rfl, _, _, res_one rfl rfl, ?_, ⟨v2, rfl, rfl⟩⟩
    repeat constructor
  refine sw_seq ?_
  refine sl_region ?_
  refine sl_bin rfl rfl rfl rfl rfl ?_
  refine sl_as rfl rfl rfl ?_
  refine sl_nil ?_
  refine sw_cond rfl (fun h3 => ?_) (fun h3 => ?_)
  · rw [encPart3 (eq5 h3)]
    refine sw_seq ?_
    refine sl_region ?_
    refine sl_mv rfl rfl rfl ?_
    first
      | refine sl_fieldAddr_ptr rfl rfl rfl fo_74_1 ?_
      | refine sl_fieldAddr_rp rfl rfl rfl fo_74_1 ?_
      | refine sl_fieldAddr_ref rfl rfl rfl fo_74_1 ?_
    first
      | refine sl_load_rp1 rfl rfl rfl ag_37 rfl ?_
      | refine sl_load_blk1 rfl rfl rfl ag_37 (by repeat constructor) rfl ?_
    refine sl_rem rfl rfl rfl rfl (by decide) ?_
    refine sl_bin rfl rfl rfl rfl rfl ?_
    refine sl_set 33 (.val (boolV (p.n % 2 == 1))) (odd_bool p.n) ?_
    refine sl_callf rfl rfl cal_79 (xbool_ok v l (p.n % 2 == 1) σ (by omega)) ?_ ?_ ?_ (fun _ _ h => h.elim)
    · repeat constructor
    · repeat constructor
    rintro _ _ ⟨v2, rfl, rfl⟩
    refine sl_as rfl rfl rfl ?_
    refine sl_nil ?_
    refine sw_ret ⟨rfl, _, _, res_one rfl rfl, ?_, ⟨v2, rfl, rfl⟩⟩
    repeat constructor
  rw [encPart4 (ne5 h0) (ne5 h1) (ne5 h2) (ne5 h3)]
  refine sw_skip ?_
  refine sw_seq ?_
  refine sl_region ?_
  refine sl_mv rfl rfl rfl ?_
  first
    | refine sl_fieldAddr_ptr rfl rfl rfl fo_74_3 ?_
    | refine sl_fieldAddr_rp rfl rfl rfl fo_74_3 ?_
    | refine sl_fieldAddr_ref rfl rfl rfl fo_74_3 ?_
  first
    | refine sl_load_rpn rfl rfl rfl ag_72 sz_72 (Nat.le_of_ble_eq_true rfl) ?_
    | refine sl_load_blkn rfl rfl rfl ag_72 sz_72 (by repeat constructor) (Nat.le_of_ble_eq_true rfl) ?_
    | refine sl_load_ref rfl rfl rfl ag_72 sz_72 (Nat.le_of_ble_eq_true rfl) ?_
  refine sl_callf rfl rfl cal_80 (xsumm_ok v l p.s σ hok.2 hlt.2 (by omega)) ?_ ?_ ?_ (fun _ _ h => h.elim)
  · repeat constructor
  · repeat constructor
  rintro _ _ ⟨v2, rfl, rfl⟩
  refine sl_as rfl rfl rfl ?_
  refine sl_nil ?_
  refine sw_ret ⟨rfl, _, _, res_one rfl rfl, ?_, ⟨v2, rfl, rfl⟩⟩
  repeat constructor

theorem l2_ok (ps : List Prt) (σ : List Chunk) (hn : ps.length ≤ 12) : FSpec Try.prog 38 [.val (.list (ps.map prtV))] σ (fun d σ' => d = .val (.list ((ps.map Prt.t).map strV)) ∧ σ' = σ) := by
  refine spec_of_sw Try.func38 rfl ?_
  refine sw_seq ?_
  refine sl_region ?_
  refine sl_as rfl rfl rfl ?_
  refine sl_nil ?_
  refine sw_seq ?_
  refine sl_region ?_
  refine sl_as rfl rfl rfl ?_
  refine sl_nil ?_
  refine sw_seq ?_
  refine sw_seq ?_
  refine sw_own (t := 3) (sz := 1) rfl (fun e0 => ?_)
  refine sl_region ?_
  refine sl_as rfl rfl rfl ?_
  refine sl_nil ?_
  refine sw_block ?_
  refine sw_loopw (fun nX sX δX σX => ∃ (k : Nat) (v : Value) (ts : List (List UInt8)), (ps.length - k) = nX ∧ sX = ⟨20, (.cons 0 (.val (.list (ps.map prtV))) (.cons 3 (.own v (ts.map strV)) (.cons 4 (.val (.int .i64 (k : Int))) .nil)))⟩ ∧ δX = [] ∧ σX = .spare v 1 :: σ ∧ (k ≤ ps.length) ∧ (ts = (ps.take k).map Prt.t)) ?_ ?_
  · refine ⟨_, _, _, ?_, ?_, 0, e0, [], rfl, rfl, rfl, rfl, Nat.zero_le _, rfl⟩
    · exact ⟨rfl, by repeat constructor⟩
    · repeat constructor
  rintro nX sX δX σX ⟨k, v, ts, rfl, rfl, rfl, rfl, hk0, hts⟩
  refine sw_seq ?_
  refine sw_seq ?_
  refine sl_region ?_
  refine sl_mv rfl rfl rfl ?_
  refine sl_mv rfl rfl rfl ?_
  first
    | refine sl_len rfl rfl rfl ⟨_, u_64⟩ ?_
    | refine sl_len_sl rfl rfl rfl ⟨_, u_64⟩ ?_
    | refine sl_len_w _ rfl rfl rfl ⟨_, u_64⟩ ?_
  refine sl_bin rfl rfl rfl rfl rfl ?_
  refine sl_nil ?_
  refine sw_cond rfl (fun hk => ?_) (fun hk => ?_)
  · have hk : k < ps.length := by simpa using hk
    have htl : ts.length ≤ 12 := by rw [hts, List.length_map, List.length_take]; omega
    refine sw_skip ?_
    refine sw_seq ?_
    refine sw_block ?_
    refine sl_region ?_
    refine sl_mv rfl rfl rfl ?_
    refine sl_mv rfl rfl rfl ?_
    refine sl_mv rfl rfl rfl ?_
    refine sl_indexAddr' rfl rfl rfl rfl u_64 sz_74 (by omega) (idx_map hk) rfl ?_
    first
      | refine sl_fieldAddr_ptr rfl rfl rfl fo_74_2 ?_
      | refine sl_fieldAddr_rp rfl rfl rfl fo_74_2 ?_
      | refine sl_fieldAddr_ref rfl rfl rfl fo_74_2 ?_
    first
      | refine sl_load_rp1 rfl rfl rfl ag_9 rfl ?_
      | refine sl_load_blk1 rfl rfl rfl ag_9 (by repeat constructor) rfl ?_
    refine sl_bs1 rfl rfl (.cons rfl .nil) u_53 sz_9 zs_9 (by decide) rfl rfl rfl rfl ?_
    refine sl_appp rfl rfl rfl rfl u_53 ⟨_, u_53, rfl⟩ el_9 (by repeat constructor) (by repeat constructor) (by simp only [List.length_map, List.length_cons, List.length_nil]; omega) ((by rw [hts, take_snoc hk, List.map_append, List.map_append]; rfl : _ = (((ps.take (k + 1)).map Prt.t)).map strV)) (by repeat constructor) (fun v18 => ?_)
    refine sl_as rfl rfl rfl ?_
    refine sl_nil ?_
    refine sl_region ?_
    refine sl_mv rfl rfl rfl ?_
    first
      | refine sl_inc rfl rfl rfl rfl (by omega) ?_
      | refine sl_add rfl rfl rfl rfl (by constructor <;> omega) ?_
      | refine sl_bin rfl rfl rfl rfl rfl ?_
    refine sl_as rfl rfl rfl ?_
    refine sl_nil ?_
    refine ⟨_, by omega, _, _, ?_, ?_, k + 1, v18, (ps.take (k + 1)).map Prt.t, rfl, rfl, rfl, rfl, by omega, rfl⟩
    · exact ⟨rfl, by repeat constructor⟩
    · repeat constructor
  have hk : k = ps.length := by have h9 : ¬ k < ps.length := (by simpa using hk); omega
  subst hk
  rw [List.take_length] at hts
  subst hts
  refine sw_exit ?_
  refine sw_seq ?_
  refine sl_region ?_
  refine sl_mv rfl rfl rfl ?_
  refine sl_as rfl rfl rfl ?_
  refine sl_nil ?_
  refine sw_ret ⟨rfl, _, _, ResD.weak (res_one rfl rfl) ((Weak.toV rfl) ), ?_, ⟨rfl, rfl⟩⟩
  repeat constructor

end Go.Proofs.Ytioechdfghglhaa
