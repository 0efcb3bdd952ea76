/- Merged: the program logic, plain laws and walks (each part's first row says what it is); no conditions of its own. -/
import Derived.Test.YtipacoopapjdpaaZ2
import Derived.Test.YtipacoopapjdpaaProg
import Derived.Test.YtipacoopapjdpaaZ3

/- What the type table says: printed by a program of this session. -/
namespace Go.Proofs.Ytipacoopapjdpaa
open Go Go.RowKit SL

theorem ag_2 : aggOf Try.prog 2 = some false := by kernel_rfl
theorem ag_24 : aggOf Try.prog 24 = some true := by kernel_rfl
theorem ag_25 : aggOf Try.prog 25 = some false := by kernel_rfl
theorem ag_28 : aggOf Try.prog 28 = some false := by kernel_rfl
theorem ag_3 : aggOf Try.prog 3 = some false := by kernel_rfl
theorem ag_30 : aggOf Try.prog 30 = some false := by kernel_rfl
theorem ag_32 : aggOf Try.prog 32 = some true := by kernel_rfl
theorem ag_4 : aggOf Try.prog 4 = some false := by kernel_rfl
theorem ag_5 : aggOf Try.prog 5 = some false := by kernel_rfl
theorem ag_55 : aggOf Try.prog 55 = some true := by kernel_rfl
theorem ag_57 : aggOf Try.prog 57 = some false := by kernel_rfl
theorem ag_62 : aggOf Try.prog 62 = some false := by kernel_rfl
theorem ag_9 : aggOf Try.prog 9 = some false := by kernel_rfl
theorem bi_112 : buildInfo Try.prog 112 = some [] := by kernel_rfl
theorem bi_24 : buildInfo Try.prog 24 = some [(0, 1), (1, 1), (2, 1), (3, 1)] := by kernel_rfl
theorem bi_32 : buildInfo Try.prog 32 = some [(0, 1), (1, 1), (2, 1), (3, 1), (4, 1), (5, 1)] := by kernel_rfl
theorem bi_55 : buildInfo Try.prog 55 = some [(0, 1), (1, 1)] := by kernel_rfl
theorem bi_60 : buildInfo Try.prog 60 = some [(0, 1), (1, 1)] := by kernel_rfl
theorem bi_83 : buildInfo Try.prog 83 = some [(0, 1)] := by kernel_rfl
theorem bi_89 : buildInfo Try.prog 89 = some [(0, 1), (1, 1)] := by kernel_rfl
theorem cal_10 : callable Try.prog 10 = true := by kernel_rfl
theorem cal_11 : callable Try.prog 11 = true := by kernel_rfl
theorem cal_12 : callable Try.prog 12 = true := by kernel_rfl
theorem cal_30 : callable Try.prog 30 = true := by kernel_rfl
theorem cal_31 : callable Try.prog 31 = true := by kernel_rfl
theorem cal_32 : callable Try.prog 32 = true := by kernel_rfl
theorem cal_33 : callable Try.prog 33 = true := by kernel_rfl
theorem cal_34 : callable Try.prog 34 = true := by kernel_rfl
theorem cal_35 : callable Try.prog 35 = true := by kernel_rfl
theorem cal_36 : callable Try.prog 36 = true := by kernel_rfl
theorem cal_37 : callable Try.prog 37 = true := by kernel_rfl
theorem cal_38 : callable Try.prog 38 = true := by kernel_rfl
theorem cal_39 : callable Try.prog 39 = true := by kernel_rfl
theorem cal_40 : callable Try.prog 40 = true := by kernel_rfl
theorem cal_41 : callable Try.prog 41 = true := by kernel_rfl
theorem cal_50 : callable Try.prog 50 = true := by kernel_rfl
theorem cal_51 : callable Try.prog 51 = true := by kernel_rfl
theorem cal_52 : callable Try.prog 52 = true := by kernel_rfl
theorem cal_53 : callable Try.prog 53 = true := by kernel_rfl
theorem cal_54 : callable Try.prog 54 = true := by kernel_rfl
theorem cal_55 : callable Try.prog 55 = true := by kernel_rfl
theorem cal_56 : callable Try.prog 56 = true := by kernel_rfl
theorem cal_57 : callable Try.prog 57 = true := by kernel_rfl
theorem cal_58 : callable Try.prog 58 = true := by kernel_rfl
theorem cal_59 : callable Try.prog 59 = true := by kernel_rfl
theorem cal_60 : callable Try.prog 60 = true := by kernel_rfl
theorem cal_61 : callable Try.prog 61 = true := by kernel_rfl
theorem cal_70 : callable Try.prog 70 = true := by kernel_rfl
theorem cal_71 : callable Try.prog 71 = true := by kernel_rfl
theorem cal_72 : callable Try.prog 72 = true := by kernel_rfl
theorem cal_73 : callable Try.prog 73 = true := by kernel_rfl
theorem cal_8 : callable Try.prog 8 = true := by kernel_rfl
theorem cal_9 : callable Try.prog 9 = true := by kernel_rfl
theorem el_5 : elOf Try.prog 5 = some (1, 1) := by kernel_rfl
theorem el_55 : elOf Try.prog 55 = some (2, 16) := by kernel_rfl
theorem fo_24_0 : fieldOff Try.prog 24 0 = some 0 := by kernel_rfl
theorem fo_24_1 : fieldOff Try.prog 24 1 = some 1 := by kernel_rfl
theorem fo_24_2 : fieldOff Try.prog 24 2 = some 2 := by kernel_rfl
theorem fo_24_3 : fieldOff Try.prog 24 3 = some 3 := by kernel_rfl
theorem fo_32_0 : fieldOff Try.prog 32 0 = some 0 := by kernel_rfl
theorem fo_32_1 : fieldOff Try.prog 32 1 = some 1 := by kernel_rfl
theorem fo_32_2 : fieldOff Try.prog 32 2 = some 2 := by kernel_rfl
theorem fo_32_3 : fieldOff Try.prog 32 3 = some 3 := by kernel_rfl
theorem fo_32_4 : fieldOff Try.prog 32 4 = some 4 := by kernel_rfl
theorem fo_32_5 : fieldOff Try.prog 32 5 = some 5 := by kernel_rfl
theorem fo_55_0 : fieldOff Try.prog 55 0 = some 0 := by kernel_rfl
theorem fo_55_1 : fieldOff Try.prog 55 1 = some 1 := by kernel_rfl
theorem fo_60_0 : fieldOff Try.prog 60 0 = some 0 := by kernel_rfl
theorem fo_60_1 : fieldOff Try.prog 60 1 = some 1 := by kernel_rfl
theorem fo_81_0 : fieldOff Try.prog 81 0 = some 0 := by kernel_rfl
theorem fo_83_0 : fieldOff Try.prog 83 0 = some 0 := by kernel_rfl
theorem fo_89_0 : fieldOff Try.prog 89 0 = some 0 := by kernel_rfl
theorem fo_89_1 : fieldOff Try.prog 89 1 = some 1 := by kernel_rfl
theorem ii_20 : isIf Try.prog 20 = true := by kernel_rfl
theorem is_2 : (Try.prog.underlying 2).isSome = true := by kernel_rfl
theorem is_3 : (Try.prog.underlying 3).isSome = true := by kernel_rfl
theorem is_5 : (Try.prog.underlying 5).isSome = true := by kernel_rfl
theorem is_62 : (Try.prog.underlying 62).isSome = true := by kernel_rfl
theorem mixed : Try.prog.follows .mixedOrders = true := by kernel_rfl
theorem ni_112 : notIf Try.prog 112 = true := by kernel_rfl
theorem sz_112 : szOf Try.prog 112 = some 0 := by kernel_rfl
theorem sz_2 : szOf Try.prog 2 = some 1 := by kernel_rfl
theorem sz_24 : szOf Try.prog 24 = some 4 := by kernel_rfl
theorem sz_25 : szOf Try.prog 25 = some 1 := by kernel_rfl
theorem sz_28 : szOf Try.prog 28 = some 1 := by kernel_rfl
theorem sz_3 : szOf Try.prog 3 = some 1 := by kernel_rfl
theorem sz_30 : szOf Try.prog 30 = some 1 := by kernel_rfl
theorem sz_32 : szOf Try.prog 32 = some 6 := by kernel_rfl
theorem sz_4 : szOf Try.prog 4 = some 1 := by kernel_rfl
theorem sz_5 : szOf Try.prog 5 = some 1 := by kernel_rfl
theorem sz_55 : szOf Try.prog 55 = some 2 := by kernel_rfl
theorem sz_62 : szOf Try.prog 62 = some 1 := by kernel_rfl
theorem sz_9 : szOf Try.prog 9 = some 1 := by kernel_rfl
theorem u_109 : Try.prog.underlying 109 = some (.slice 62) := by kernel_rfl
theorem u_110 : Try.prog.underlying 110 = some (.slice 2) := by kernel_rfl
theorem u_2 : Try.prog.underlying 2 = some (.int .i64) := by kernel_rfl
theorem u_28 : Try.prog.underlying 28 = some (.slice 5) := by kernel_rfl
theorem u_3 : Try.prog.underlying 3 = some (.int .i64) := by kernel_rfl
theorem u_30 : Try.prog.underlying 30 = some (.slice 55) := by kernel_rfl
theorem u_38 : Try.prog.underlying 38 = some (.slice 9) := by kernel_rfl
theorem u_4 : Try.prog.underlying 4 = some .bool := by kernel_rfl
theorem u_5 : Try.prog.underlying 5 = some (.int .u8) := by kernel_rfl
theorem u_62 : Try.prog.underlying 62 = some (.int .u64) := by kernel_rfl
theorem u_9 : Try.prog.underlying 9 = some .string := by kernel_rfl
theorem u_92 : Try.prog.underlying 92 = some (.int .u64) := by kernel_rfl
theorem zd_112 : zeroDs Try.prog 112 = some [] := by kernel_rfl
theorem zd_2 : zeroDs Try.prog 2 = some [.val (.int .i64 0)] := by kernel_rfl
theorem zd_24 : zeroDs Try.prog 24 = some [.val (.int .i64 0), .val (.str []), .val (.str []), .val (.int .i64 0)] := by kernel_rfl
theorem zd_32 : zeroDs Try.prog 32 = some [.val (.int .i64 0), .val (.int .i64 0), .val (.int .i64 0), .fix [], .val (.str []), .val (.int .i64 0)] := by kernel_rfl
theorem zd_4 : zeroDs Try.prog 4 = some [.val (.bool false)] := by kernel_rfl
theorem zd_55 : zeroDs Try.prog 55 = some [.val (.int .i64 0), .val (.int .i64 0)] := by kernel_rfl
theorem zd_60 : zeroDs Try.prog 60 = some [.val .nil, .val (.bool false)] := by kernel_rfl
theorem zd_62 : zeroDs Try.prog 62 = some [.val (.int .u64 0)] := by kernel_rfl
theorem zd_83 : zeroDs Try.prog 83 = some [.fix []] := by kernel_rfl
theorem zd_89 : zeroDs Try.prog 89 = some [.fix [], .val (.bool false)] := by kernel_rfl
theorem zd_9 : zeroDs Try.prog 9 = some [.val (.str [])] := by kernel_rfl
theorem zs_2 : (zeroOf Try.prog 2).isSome = true := by kernel_rfl
theorem zs_5 : (zeroOf Try.prog 5).isSome = true := by kernel_rfl
theorem zs_55 : (zeroOf Try.prog 55).isSome = true := by kernel_rfl
theorem zs_62 : (zeroOf Try.prog 62).isSome = true := by kernel_rfl
theorem zs_9 : (zeroOf Try.prog 9).isSome = true := by kernel_rfl
end Go.Proofs.Ytipacoopapjdpaa

/- Walks: printed by a program of this session out of its script CodeA. -/
namespace Go.Proofs.Ytipacoopapjdpaa
set_option linter.unusedVariables false
set_option linter.unusedSimpArgs false
set_option maxRecDepth 4000
set_option maxHeartbeats 4000000
open Go Go.RowKit SL


/-- slices.Clone over bytes. -/
theorem clone_ok (l : List UInt8) (σ : List Chunk) (hl : l.length ≤ 100000000) :
    FSpec Try.prog 55 [.val (.list (l.map byteV))] σ (fun d σ' => d = .val (.list (l.map byteV)) ∧ σ' = σ) := by
  refine spec_of_sw Try.func55 rfl ?_
  refine sw_seq ?_
  refine sl_region ?_
  refine sl_as rfl rfl rfl ?_
  refine sl_nil ?_
  refine sw_seq ?_
  refine sw_seq ?_
  refine sl_region ?_
  refine sl_mv rfl rfl rfl ?_
  refine sl_list_nil rfl rfl rfl u_28 (fun n4 hn4 => ?_)
  refine sl_nil ?_
  refine sw_cond rfl (fun hn => ?_) (fun hn => ?_)
  · obtain rfl : l = [] := by have := hn4 hn; simpa using this
    refine sw_seq ?_
    refine sl_region ?_
    refine sl_as rfl rfl rfl ?_
    refine sl_nil ?_
    refine sw_ret ⟨rfl, _, _, ResD.weak (res_one rfl rfl) ((Weak.toV rfl) ), ?_, ⟨rfl, rfl⟩⟩
    repeat constructor
  refine sw_skip ?_
  refine sw_seq ?_
  refine sl_region ?_
  refine sl_bs1 rfl rfl .nil u_28 sz_5 zs_5 (by decide) rfl rfl rfl rfl ?_
  refine sl_mv rfl rfl rfl ?_
  refine sl_own (t := 5) (sz := 1) rfl (fun v => ?_)
  refine sl_appp rfl rfl rfl rfl u_28 ⟨_, u_28, rfl⟩ el_5 (by repeat constructor) (by repeat constructor) (by simp; omega) (rfl) (by repeat constructor) (fun v7 => ?_)
  refine sl_as rfl rfl rfl ?_
  refine sl_nil ?_
  refine sw_ret ⟨rfl, _, _, ResD.weak (res_one rfl rfl) ((Weak.toV rfl) ), ?_, ⟨rfl, rfl⟩⟩
  repeat constructor

/-- NewWriter: a new, empty writer. -/
theorem newWriter_ok (σ : List Chunk) : FSpec Try.prog 50 [] σ (fun d σ' => ∃ p v, d = .ptr p 0 ∧ σ' = .blk p [.own v (([] : List UInt8).map byteV)] :: .spare v 1 :: σ) := by
  refine spec_of_sw Try.func50 rfl ?_
  refine sw_seq ?_
  refine sl_region ?_
  refine sl_as rfl rfl rfl ?_
  refine sl_nil ?_
  refine sw_seq ?_
  refine sl_region ?_
  refine sl_bd rfl rfl .nil bi_83 zd_83 rfl ?_
  refine sl_bx rfl rfl rfl rfl (fun b2 => ?_)
  refine sl_own_blk (i := 0) (sz := 1) rfl (fun v => ?_)
  refine sl_as rfl rfl rfl ?_
  refine sl_nil ?_
  refine sw_ret ⟨rfl, _, _, res_one rfl rfl, ?_, ⟨b2, v, rfl, rfl⟩⟩
  repeat constructor

/-- Num writes numbers. -/
theorem num_ok (p : Nat) (v : Value) (l : List UInt8) (ns : List Nat) (σ : List Chunk) (hns : ∀ n ∈ ns, n < 18446744073709551616) (hl : l.length + 10 * ns.length ≤ 100000000) :
    FSpec Try.prog 51 [.ptr p 0, .val (.list (ns.map u64V))] (.blk p [.own v (l.map byteV)] :: .spare v 1 :: σ)
      (fun d σ' => d = .tup [] ∧ ∃ v', σ' = .blk p [.own v' ((l ++ ns.flatMap encNum).map byteV)] :: .spare v' 1 :: σ) := by
  refine spec_of_sw Try.func51 rfl ?_
  refine sw_seq ?_
  refine sl_region ?_
  refine sl_mv rfl rfl rfl ?_
  first
    | refine sl_len rfl rfl rfl ⟨_, u_109⟩ ?_
    | refine sl_len_sl rfl rfl rfl ⟨_, u_109⟩ ?_
    | refine sl_len_w _ rfl rfl rfl ⟨_, u_109⟩ ?_
  refine sl_mv rfl rfl rfl ?_
  refine sl_nil ?_
  refine sw_block ?_
  refine sw_set 7 (.val (.int .i64 (ns.length : Int))) (len_eq (List.length_map ..)) ?_
  refine sw_loopw (fun nX sX δX σX => ∃ (k : Nat) (v : Value) (m : List UInt8), (ns.length - k) = nX ∧ sX = ⟨40, (.cons 0 (.ptr p 0) (.cons 6 (.val (.list (ns.map u64V))) (.cons 7 (.val (.int .i64 (ns.length : Int))) (.cons 8 (.val (.int .i64 (k : Int))) .nil))))⟩ ∧ δX = [] ∧ σX = .blk p [.own v (m.map byteV)] :: .spare v 1 :: σ ∧ (k ≤ ns.length) ∧ (m = l ++ (ns.take k).flatMap encNum)) ?_ ?_
  · refine ⟨_, _, _, ?_, ?_, 0, v, l, rfl, rfl, rfl, rfl, (Nat.zero_le _), (by simp)⟩
    · exact ⟨rfl, by repeat constructor⟩
    · repeat constructor
  rintro nX sX δX σX ⟨k, v, m, rfl, rfl, rfl, rfl, hk0, hm0⟩
  refine sw_seq ?_
  refine sl_region ?_
  refine sl_bin rfl rfl rfl rfl rfl ?_
  refine sl_nil ?_
  refine sw_seq ?_
  refine sw_cond rfl (fun hk => ?_) (fun hk => ?_)
  · have hk : k < ns.length := by simpa using hk
    refine sw_skip ?_
    refine sw_seq ?_
    refine sw_block ?_
    refine sw_seq ?_
    refine sl_region ?_
    refine sl_indexAddr' rfl rfl rfl rfl u_109 sz_62 (by omega) (idx_map hk) rfl ?_
    first
      | refine sl_load_rp1 rfl rfl rfl ag_62 rfl ?_
      | refine sl_load_blk1 rfl rfl rfl ag_62 (by repeat constructor) rfl ?_
    refine sl_as rfl rfl rfl ?_
    refine sl_nil ?_
    refine sw_seq ?_
    refine sw_block ?_
    have hxk := hns ns[k] (List.getElem_mem hk)
    have hft := flat_take_len ns hns k
    refine sw_loopw (fun nX sX δX σX => ∃ (x : Nat) (v : Value) (m : List UInt8), (x) = nX ∧ sX = ⟨40, (.cons 0 (.ptr p 0) (.cons 6 (.val (.list (ns.map u64V))) (.cons 7 (.val (.int .i64 (ns.length : Int))) (.cons 8 (.val (.int .i64 (k : Int))) (.cons 5 (.val (.int .u64 (x : Int))) .nil)))))⟩ ∧ δX = [] ∧ σX = .blk p [.own v (m.map byteV)] :: .spare v 1 :: σ ∧ (x < 18446744073709551616) ∧ (m ++ encNum x = l ++ (ns.take k).flatMap encNum ++ encNum ns[k])) ?_ ?_
    · refine ⟨_, _, _, ?_, ?_, ns[k], v, m, rfl, rfl, rfl, rfl, (hxk), (by rw [hm0])⟩
      · exact ⟨rfl, by repeat constructor⟩
      · repeat constructor
    rintro nX sX δX σX ⟨x, v, m, rfl, rfl, rfl, rfl, hx0, hm⟩
    have hml : m.length ≤ 99999999 := by
      have h1 := congrArg List.length hm
      have h2 := encNum_len hxk
      have h3 := encNum_pos x
      simp only [List.length_append] at h1
      omega
    refine sw_seq ?_
    refine sw_seq ?_
    refine sl_region ?_
    refine sl_mv rfl rfl rfl ?_
    refine sl_bin rfl rfl rfl rfl rfl ?_
    refine sl_nil ?_
    refine sw_cond rfl (fun hx => ?_) (fun hx => ?_)
    · have hx : 128 ≤ x := by have := of_decide_eq_true hx; omega
      refine sw_skip ?_
      refine sw_seq ?_
      refine sw_block ?_
      refine sl_region ?_
      refine sl_mv rfl rfl rfl ?_
      refine sl_mv rfl rfl rfl ?_
      refine sl_nc rfl rfl rfl rfl ?_
      first
        | refine sl_fieldAddr_ptr rfl rfl rfl fo_81_0 ?_
        | refine sl_fieldAddr_rp rfl rfl rfl fo_81_0 ?_
        | refine sl_fieldAddr_ref rfl rfl rfl fo_81_0 ?_
      first
        | refine sl_load_rp1 rfl rfl rfl ag_28 rfl ?_
        | refine sl_load_blk1 rfl rfl rfl ag_28 (by repeat constructor) rfl ?_
      refine sl_mv rfl rfl rfl ?_
      refine sl_conv_int rfl rfl rfl is_62 u_5 ?_
      refine sl_bin rfl rfl rfl rfl rfl ?_
      refine sl_bs1 rfl rfl (.cons rfl .nil) u_28 sz_5 zs_5 (by decide) rfl rfl rfl rfl ?_
      refine sl_appp rfl rfl rfl rfl u_28 ⟨_, u_28, rfl⟩ el_5 (by repeat constructor) (by repeat constructor) (by simp; omega) ((by rw [List.map_append]; exact congrArg _ (congrArg (fun z => [z]) (hi_byte x)) : _ = (m ++ [UInt8.ofNat (x % 128 + 128)]).map byteV)) (by repeat constructor) (fun v25 => ?_)
      refine sl_nc rfl rfl rfl rfl ?_
      first
        | refine sl_fieldAddr_ptr rfl rfl rfl fo_81_0 ?_
        | refine sl_fieldAddr_rp rfl rfl rfl fo_81_0 ?_
        | refine sl_fieldAddr_ref rfl rfl rfl fo_81_0 ?_
      refine sl_stp rfl rfl rfl rfl sz_28 rfl rfl rfl (by repeat constructor) (Nat.le_of_ble_eq_true rfl) ?_
      refine sl_nil ?_
      refine sl_region ?_
      refine sl_mv rfl rfl rfl ?_
      refine sl_shr rfl rfl rfl rfl (by decide) ?_
      refine sl_set 15 (.val (.int .u64 ((x / 128 : Nat) : Int))) (shr7 x) ?_
      refine sl_as rfl rfl rfl ?_
      refine sl_nil ?_
      refine ⟨_, by omega, _, _, ?_, ?_, x / 128, v25, m ++ [UInt8.ofNat (x % 128 + 128)], rfl, rfl, rfl, rfl, (by omega), (by rw [← hm, encNum_ge hx]; simp)⟩
      · exact ⟨rfl, by repeat constructor⟩
      · repeat constructor
    have hx : x < 128 := by have := of_decide_eq_false hx; omega
    refine sw_exit ?_
    refine sl_region ?_
    refine sl_mv rfl rfl rfl ?_
    refine sl_mv rfl rfl rfl ?_
    refine sl_nc rfl rfl rfl rfl ?_
    first
      | refine sl_fieldAddr_ptr rfl rfl rfl fo_81_0 ?_
      | refine sl_fieldAddr_rp rfl rfl rfl fo_81_0 ?_
      | refine sl_fieldAddr_ref rfl rfl rfl fo_81_0 ?_
    first
      | refine sl_load_rp1 rfl rfl rfl ag_28 rfl ?_
      | refine sl_load_blk1 rfl rfl rfl ag_28 (by repeat constructor) rfl ?_
    refine sl_mv rfl rfl rfl ?_
    refine sl_conv_int rfl rfl rfl is_62 u_5 ?_
    refine sl_bs1 rfl rfl (.cons rfl .nil) u_28 sz_5 zs_5 (by decide) rfl rfl rfl rfl ?_
    refine sl_appp rfl rfl rfl rfl u_28 ⟨_, u_28, rfl⟩ el_5 (by repeat constructor) (by repeat constructor) (by simp; omega) ((by rw [List.map_append]; exact congrArg _ (congrArg (fun z => [z]) (lo_byte x)) : _ = (m ++ [UInt8.ofNat x]).map byteV)) (by repeat constructor) (fun v36 => ?_)
    refine sl_nc rfl rfl rfl rfl ?_
    first
      | refine sl_fieldAddr_ptr rfl rfl rfl fo_81_0 ?_
      | refine sl_fieldAddr_rp rfl rfl rfl fo_81_0 ?_
      | refine sl_fieldAddr_ref rfl rfl rfl fo_81_0 ?_
    refine sl_stp rfl rfl rfl rfl sz_28 rfl rfl rfl (by repeat constructor) (Nat.le_of_ble_eq_true rfl) ?_
    refine sl_nil ?_
    refine sl_region ?_
    first
      | refine sl_inc rfl rfl rfl rfl (by omega) ?_
      | refine sl_add rfl rfl rfl rfl (by constructor <;> omega) ?_
      | refine sl_bin rfl rfl rfl rfl rfl ?_
    refine sl_mv rfl rfl rfl ?_
    refine sl_nil ?_
    have e : m ++ [UInt8.ofNat x] = l ++ (ns.take (k + 1)).flatMap encNum := by
      rw [take_snoc hk, List.flatMap_append, ← List.append_assoc]
      simp only [List.flatMap_cons, List.flatMap_nil, List.append_nil]
      rw [← hm, encNum_lt hx]
    refine ⟨_, by omega, _, _, ?_, ?_, k + 1, v36, _, rfl, rfl, rfl, rfl, (by omega), (e)⟩
    · exact ⟨rfl, by repeat constructor⟩
    · repeat constructor
  have hk : k = ns.length := by have : ¬ k < ns.length := by simpa using hk
                                omega
  subst hk
  rw [List.take_length] at hm0
  subst hm0
  refine sw_exit ?_
  refine ⟨rfl, _, _, res_none rfl, ?_, ⟨rfl, v, rfl⟩⟩
  repeat constructor

end Go.Proofs.Ytipacoopapjdpaa

/- Walks: printed by a program of this session out of its script CodeB. -/
namespace Go.Proofs.Ytipacoopapjdpaa
set_option linter.unusedVariables false
set_option linter.unusedSimpArgs false
set_option maxRecDepth 4000
set_option maxHeartbeats 4000000
open Go Go.RowKit SL


def stop : List PanicEntry := [{ v := .iface 112 (.agg #[]), recovered := false }]

/-- Int writes numbers with signs. -/
theorem int_ok (p : Nat) (v : Value) (l : List UInt8) (ns : List Int) (σ : List Chunk) (hns : ∀ n ∈ ns, isI64 n) (hl : l.length + 10 * ns.length ≤ 100000000) :
    FSpec Try.prog 53 [.ptr p 0, .val (.list (ns.map i64V))] (.blk p [.own v (l.map byteV)] :: .spare v 1 :: σ)
      (fun d σ' => d = .tup [] ∧ ∃ v', σ' = .blk p [.own v' ((l ++ ns.flatMap encInt).map byteV)] :: .spare v' 1 :: σ) := by
  refine spec_of_sw Try.func53 rfl ?_
  refine sw_seq ?_
  refine sl_region ?_
  refine sl_mv rfl rfl rfl ?_
  first
    | refine sl_len rfl rfl rfl ⟨_, u_110⟩ ?_
    | refine sl_len_sl rfl rfl rfl ⟨_, u_110⟩ ?_
    | refine sl_len_w _ rfl rfl rfl ⟨_, u_110⟩ ?_
  refine sl_mv rfl rfl rfl ?_
  refine sl_nil ?_
  refine sw_block ?_
  refine sw_set 7 (.val (.int .i64 (ns.length : Int))) (len_eq (List.length_map ..)) ?_
  refine sw_loopw (fun nX sX δX σX => ∃ (k : Nat) (v : Value) (m : List UInt8), (ns.length - k) = nX ∧ sX = ⟨23, (.cons 0 (.ptr p 0) (.cons 6 (.val (.list (ns.map i64V))) (.cons 7 (.val (.int .i64 (ns.length : Int))) (.cons 8 (.val (.int .i64 (k : Int))) .nil))))⟩ ∧ δX = [] ∧ σX = .blk p [.own v (m.map byteV)] :: .spare v 1 :: σ ∧ (k ≤ ns.length) ∧ (m = l ++ (ns.take k).flatMap encInt)) ?_ ?_
  · refine ⟨_, _, _, ?_, ?_, 0, v, l, rfl, rfl, rfl, rfl, (Nat.zero_le _), (by simp)⟩
    · exact ⟨rfl, by repeat constructor⟩
    · repeat constructor
  rintro nX sX δX σX ⟨k, v, m, rfl, rfl, rfl, rfl, hk0, hm0⟩
  refine sw_seq ?_
  refine sl_region ?_
  refine sl_bin rfl rfl rfl rfl rfl ?_
  refine sl_nil ?_
  refine sw_seq ?_
  refine sw_cond rfl (fun hk => ?_) (fun hk => ?_)
  · have hk : k < ns.length := by simpa using hk
    refine sw_skip ?_
    refine sw_seq ?_
    refine sw_block ?_
    refine sw_seq ?_
    refine sl_region ?_
    refine sl_indexAddr' rfl rfl rfl rfl u_110 sz_2 (by omega) (idx_map hk) rfl ?_
    first
      | refine sl_load_rp1 rfl rfl rfl ag_2 rfl ?_
      | refine sl_load_blk1 rfl rfl rfl ag_2 (by repeat constructor) rfl ?_
    refine sl_as rfl rfl rfl ?_
    refine sl_nil ?_
    refine sl_region ?_
    refine sl_mv rfl rfl rfl ?_
    refine sl_mv rfl rfl rfl ?_
    refine sl_conv_int rfl rfl rfl is_2 u_62 ?_
    refine sl_shl rfl rfl rfl rfl (by decide) ?_
    refine sl_mv rfl rfl rfl ?_
    refine sl_shr rfl rfl rfl rfl (by decide) ?_
    refine sl_conv_int rfl rfl rfl is_2 u_62 ?_
    refine sl_bin rfl rfl rfl rfl rfl ?_
    have hxk := hns ns[k] (List.getElem_mem hk)
    have hft := flat_len (f := encInt) (c := 10) (ns := ns) (fun n hn => encNum_len (zig_lt (hns n hn))) k
    have hml : m.length ≤ l.length + 10 * k := by rw [hm0, List.length_append]; omega
    refine sl_set 19 (.val (u64V (zig ns[k]))) (congrArg D.val (zig_bits hxk)) ?_
    refine sl_bs1 rfl rfl (.cons rfl .nil) u_109 sz_62 zs_62 (by decide) rfl rfl rfl rfl ?_
    refine sl_callf rfl rfl cal_51 (num_ok p v m [zig ns[k]] σ (by simpa using zig_lt hxk) (by simp; omega)) ?_ ?_ ?_ (fun _ _ h => h.elim)
    · repeat constructor
    · repeat constructor
    rintro _ _ ⟨rfl, v2, rfl⟩
    refine sl_nil ?_
    refine sl_region ?_
    first
      | refine sl_inc rfl rfl rfl rfl (by omega) ?_
      | refine sl_add rfl rfl rfl rfl (by constructor <;> omega) ?_
      | refine sl_bin rfl rfl rfl rfl rfl ?_
    refine sl_mv rfl rfl rfl ?_
    refine sl_nil ?_
    have e : m ++ [zig ns[k]].flatMap encNum = l ++ (ns.take (k + 1)).flatMap encInt := by
      rw [flat_snoc hk, hm0]; simp [encInt]
    refine ⟨_, by omega, _, _, ?_, ?_, k + 1, v2, _, rfl, rfl, rfl, rfl, (by omega), (e)⟩
    · exact ⟨rfl, by repeat constructor⟩
    · repeat constructor
  have hk : k = ns.length := by have : ¬ k < ns.length := by simpa using hk
                                omega
  subst hk
  rw [List.take_length] at hm0
  subst hm0
  refine sw_exit ?_
  refine ⟨rfl, _, _, res_none rfl, ?_, ⟨rfl, v, rfl⟩⟩
  repeat constructor

/-- Text writes texts. -/
theorem text_ok (p : Nat) (v : Value) (l : List UInt8) (ss : List (List UInt8)) (c : Nat) (σ : List Chunk) (hss : ∀ s ∈ ss, s.length ≤ c) (hl : l.length + (10 + c) * ss.length ≤ 100000000) :
    FSpec Try.prog 52 [.ptr p 0, .val (.list (ss.map strV))] (.blk p [.own v (l.map byteV)] :: .spare v 1 :: σ)
      (fun d σ' => d = .tup [] ∧ ∃ v', σ' = .blk p [.own v' ((l ++ ss.flatMap encText).map byteV)] :: .spare v' 1 :: σ) := by
  refine spec_of_sw Try.func52 rfl ?_
  refine sw_seq ?_
  refine sl_region ?_
  refine sl_mv rfl rfl rfl ?_
  first
    | refine sl_len rfl rfl rfl ⟨_, u_38⟩ ?_
    | refine sl_len_sl rfl rfl rfl ⟨_, u_38⟩ ?_
    | refine sl_len_w _ rfl rfl rfl ⟨_, u_38⟩ ?_
  refine sl_mv rfl rfl rfl ?_
  refine sl_nil ?_
  refine sw_block ?_
  refine sw_set 7 (.val (.int .i64 (ss.length : Int))) (len_eq (List.length_map ..)) ?_
  refine sw_loopw (fun nX sX δX σX => ∃ (k : Nat) (v : Value) (m : List UInt8), (ss.length - k) = nX ∧ sX = ⟨28, (.cons 0 (.ptr p 0) (.cons 6 (.val (.list (ss.map strV))) (.cons 7 (.val (.int .i64 (ss.length : Int))) (.cons 8 (.val (.int .i64 (k : Int))) .nil))))⟩ ∧ δX = [] ∧ σX = .blk p [.own v (m.map byteV)] :: .spare v 1 :: σ ∧ (k ≤ ss.length) ∧ (m = l ++ (ss.take k).flatMap encText)) ?_ ?_
  · refine ⟨_, _, _, ?_, ?_, 0, v, l, rfl, rfl, rfl, rfl, (Nat.zero_le _), (by simp)⟩
    · exact ⟨rfl, by repeat constructor⟩
    · repeat constructor
  rintro nX sX δX σX ⟨k, v, m, rfl, rfl, rfl, rfl, hk0, hm0⟩
  refine sw_seq ?_
  refine sl_region ?_
  refine sl_bin rfl rfl rfl rfl rfl ?_
  refine sl_nil ?_
  refine sw_seq ?_
  refine sw_cond rfl (fun hk => ?_) (fun hk => ?_)
  · have hk : k < ss.length := by simpa using hk
    refine sw_skip ?_
    refine sw_seq ?_
    refine sw_block ?_
    refine sw_seq ?_
    refine sl_region ?_
    refine sl_indexAddr' rfl rfl rfl rfl u_38 sz_9 (by omega) (idx_map hk) rfl ?_
    first
      | refine sl_load_rp1 rfl rfl rfl ag_9 rfl ?_
      | refine sl_load_blk1 rfl rfl rfl ag_9 (by repeat constructor) rfl ?_
    refine sl_as rfl rfl rfl ?_
    refine sl_nil ?_
    refine sw_seq ?_
    refine sl_region ?_
    refine sl_mv rfl rfl rfl ?_
    refine sl_mv rfl rfl rfl ?_
    refine sl_len_str rfl rfl rfl u_9 ?_
    refine sl_conv_int rfl rfl rfl is_3 u_62 ?_
    have hxk := hss ss[k] (List.getElem_mem hk)
    have hmul : (10 + c) * (k + 1) ≤ (10 + c) * ss.length := Nat.mul_le_mul (Nat.le_refl _) hk
    rw [Nat.mul_succ] at hmul
    have hcl : c ≤ 100000000 := by omega
    have hkk : 10 * k ≤ (10 + c) * k := Nat.mul_le_mul (by omega) (Nat.le_refl _)
    have hft := flat_len (f := encText) (c := 10 + c) (ns := ss) (fun s hs => by have := encNum_len (n := s.length) (by have := hss s hs; omega); have := hss s hs; unfold encText; rw [List.length_append]; omega) k
    have hml : m.length ≤ l.length + (10 + c) * k := by rw [hm0, List.length_append]; omega
    have hel := encNum_len (n := ss[k].length) (by omega)
    refine sl_set 15 (.val (u64V ss[k].length)) (congrArg (fun z => D.val (.int .u64 z)) (wrapped_u64 _ (by omega))) ?_
    refine sl_bs1 rfl rfl (.cons rfl .nil) u_109 sz_62 zs_62 (by decide) rfl rfl rfl rfl ?_
    refine sl_callf rfl rfl cal_51 (num_ok p v m [ss[k].length] σ (by simp; omega) (by simp; omega)) ?_ ?_ ?_ (fun _ _ h => h.elim)
    · repeat constructor
    · repeat constructor
    rintro _ _ ⟨rfl, v2, rfl⟩
    refine sl_nil ?_
    refine sl_region ?_
    refine sl_mv rfl rfl rfl ?_
    refine sl_mv rfl rfl rfl ?_
    refine sl_nc rfl rfl rfl rfl ?_
    first
      | refine sl_fieldAddr_ptr rfl rfl rfl fo_81_0 ?_
      | refine sl_fieldAddr_rp rfl rfl rfl fo_81_0 ?_
      | refine sl_fieldAddr_ref rfl rfl rfl fo_81_0 ?_
    first
      | refine sl_load_rp1 rfl rfl rfl ag_28 rfl ?_
      | refine sl_load_blk1 rfl rfl rfl ag_28 (by repeat constructor) rfl ?_
    refine sl_mv rfl rfl rfl ?_
    refine sl_app_strp rfl rfl rfl rfl u_28 u_9 el_5 (by repeat constructor) (by simp; omega) ((by rw [← List.map_append] : _ = ((m ++ [ss[k].length].flatMap encNum) ++ ss[k]).map byteV)) (by repeat constructor) (fun v24 => ?_)
    refine sl_nc rfl rfl rfl rfl ?_
    first
      | refine sl_fieldAddr_ptr rfl rfl rfl fo_81_0 ?_
      | refine sl_fieldAddr_rp rfl rfl rfl fo_81_0 ?_
      | refine sl_fieldAddr_ref rfl rfl rfl fo_81_0 ?_
    refine sl_stp rfl rfl rfl rfl sz_28 rfl rfl rfl (by repeat constructor) (Nat.le_of_ble_eq_true rfl) ?_
    refine sl_nil ?_
    refine sl_region ?_
    first
      | refine sl_inc rfl rfl rfl rfl (by omega) ?_
      | refine sl_add rfl rfl rfl rfl (by constructor <;> omega) ?_
      | refine sl_bin rfl rfl rfl rfl rfl ?_
    refine sl_mv rfl rfl rfl ?_
    refine sl_nil ?_
    have e : (m ++ [ss[k].length].flatMap encNum) ++ ss[k] = l ++ (ss.take (k + 1)).flatMap encText := by
      rw [flat_snoc hk, hm0]; simp [encText]
    refine ⟨_, by omega, _, _, ?_, ?_, k + 1, v24, _, rfl, rfl, rfl, rfl, (by omega), (e)⟩
    · exact ⟨rfl, by repeat constructor⟩
    · repeat constructor
  have hk : k = ss.length := by have : ¬ k < ss.length := by simpa using hk
                                omega
  subst hk
  rw [List.take_length] at hm0
  subst hm0
  refine sw_exit ?_
  refine ⟨rfl, _, _, res_none rfl, ?_, ⟨rfl, v, rfl⟩⟩
  repeat constructor

/-- Bytes tells all that was written. -/
theorem bytes_ok (p : Nat) (v : Value) (l : List UInt8) (σ : List Chunk) (hl : l.length ≤ 100000000) :
    FSpec Try.prog 54 [.ptr p 0] (.blk p [.own v (l.map byteV)] :: σ) (fun d σ' => d = .val (.list (l.map byteV)) ∧ σ' = .blk p [.own v (l.map byteV)] :: σ) := by
  refine spec_of_sw Try.func54 rfl ?_
  refine sw_seq ?_
  refine sl_region ?_
  refine sl_as rfl rfl rfl ?_
  refine sl_nil ?_
  refine sw_seq ?_
  refine sl_region ?_
  refine sl_mv rfl rfl rfl ?_
  refine sl_nc rfl rfl rfl rfl ?_
  first
    | refine sl_fieldAddr_ptr rfl rfl rfl fo_81_0 ?_
    | refine sl_fieldAddr_rp rfl rfl rfl fo_81_0 ?_
    | refine sl_fieldAddr_ref rfl rfl rfl fo_81_0 ?_
  first
    | refine sl_load_rp1 rfl rfl rfl ag_28 rfl ?_
    | refine sl_load_blk1 rfl rfl rfl ag_28 (by repeat constructor) rfl ?_
  refine sl_callf rfl rfl cal_55 (clone_ok l (.blk p [.own v (l.map byteV)] :: σ) hl) ?_ ?_ ?_ (fun _ _ h => h.elim)
  · repeat constructor
  · repeat constructor
  rintro _ _ ⟨rfl, rfl⟩
  refine sl_as rfl rfl rfl ?_
  refine sl_nil ?_
  refine sw_ret ⟨rfl, _, _, res_one rfl rfl, ?_, ⟨rfl, rfl⟩⟩
  repeat constructor

/-- NewReader. -/
theorem newReader_ok (l : List UInt8) (σ : List Chunk) (hl : l.length ≤ 100000000) :
    FSpec Try.prog 32 [.val (.list (l.map byteV))] σ (fun d σ' => ∃ q, d = .ptr q 0 ∧ σ' = .blk q [.val (.list (l.map byteV)), .val (.bool false)] :: σ) := by
  refine spec_of_sw Try.func32 rfl ?_
  refine sw_seq ?_
  refine sl_region ?_
  refine sl_as rfl rfl rfl ?_
  refine sl_nil ?_
  refine sw_seq ?_
  refine sl_region ?_
  refine sl_mv rfl rfl rfl ?_
  refine sl_callf rfl rfl cal_55 (clone_ok l σ hl) ?_ ?_ ?_ (fun _ _ h => h.elim)
  · repeat constructor
  · repeat constructor
  rintro _ _ ⟨rfl, rfl⟩
  refine sl_bd rfl rfl (.cons rfl .nil) bi_89 zd_89 rfl ?_
  refine sl_bx rfl rfl rfl rfl (fun b6 => ?_)
  refine sl_as rfl rfl rfl ?_
  refine sl_nil ?_
  refine sw_ret ⟨rfl, _, _, res_one rfl rfl, ?_, ⟨b6, rfl, rfl⟩⟩
  repeat constructor

theorem must_ok (b : Bool) (σ : List Chunk) : FSpecP Try.prog 71 [.val (.bool b)] σ (fun d σ' => b = true ∧ d = .tup [] ∧ σ' = σ) (fun ch σ' => b = false ∧ ch = stop ∧ σ' = σ) := by
  refine spec_of_sw Try.func71 rfl ?_
  refine sw_seq ?_
  refine sl_region ?_
  refine sl_mv rfl rfl rfl ?_
  refine sl_not rfl rfl rfl ?_
  refine sl_nil ?_
  refine sw_cond rfl (fun h => ?_) (fun h => ?_)
  · refine sl_region ?_
    refine sl_bd rfl rfl .nil bi_112 zd_112 rfl ?_
    refine sl_mi' rfl rfl ni_112 rfl ?_
    refine sl_panic rfl rfl rfl (fun _ _ r => empty_iface r) (⟨rfl, _, Sub.refl _, ⟨by simpa using h, rfl, rfl⟩⟩)
  refine sw_skip ?_
  refine ⟨rfl, _, _, res_none rfl, ?_, ⟨by simpa using h, rfl, rfl⟩⟩
  repeat constructor

end Go.Proofs.Ytipacoopapjdpaa

/- Walks: printed by a program of this session out of its script CodeC. -/
namespace Go.Proofs.Ytipacoopapjdpaa
set_option linter.unusedVariables false
set_option linter.unusedSimpArgs false
set_option maxRecDepth 4000
set_option maxHeartbeats 4000000
open Go Go.RowKit SL


/-- num reads a number. -/
theorem rnum_ok (q : Nat) (l : List UInt8) (σ : List Chunk) :
    FSpecP Try.prog 61 [.ptr q 0] (rd q l false :: σ) (fun d σ' => ∃ v r, decN 0 l = some (v, r) ∧ d = .val (u64V v) ∧ σ' = rd q r false :: σ)
      (fun ch σ' => decN 0 l = none ∧ ch = stop ∧ ∃ r, σ' = rd q r false :: σ) := by
  refine spec_of_sw Try.func61 rfl ?_
  refine sw_seq ?_
  refine sl_region ?_
  refine sl_as rfl rfl rfl ?_
  refine sl_nil ?_
  refine sw_seq ?_
  refine sl_region ?_
  refine sl_as rfl rfl rfl ?_
  refine sl_nil ?_
  refine sw_seq ?_
  refine sl_region ?_
  refine sl_as rfl rfl rfl ?_
  refine sl_nil ?_
  refine sw_block ?_
  refine sw_loopw (fun nX sX δX σX => ∃ (i n : Nat) (m : List UInt8), (11 - i) = nX ∧ sX = ⟨60, (.cons 0 (.ptr q 0) (.cons 3 (.val (.int .u64 (n : Int))) (.cons 4 (.val (.int .i64 (i : Int))) .nil)))⟩ ∧ δX = [] ∧ σX = rd q m false :: σ ∧ (i ≤ 10) ∧ (n < 128 ^ i) ∧ (decN 0 l = (decN i m).map fun p => (n + 128 ^ i * p.1, p.2))) ?_ ?_
  · refine ⟨_, _, _, ?_, ?_, 0, 0, l, rfl, rfl, rfl, rfl, (Nat.zero_le _), (by decide), (start_dec l)⟩
    · exact ⟨rfl, by repeat constructor⟩
    · repeat constructor
  rintro nX sX δX σX ⟨i, n, m, rfl, rfl, rfl, rfl, hi, hn, hd⟩
  refine sw_seq ?_
  refine sw_block ?_
  refine sw_seq ?_
  refine sl_region ?_
  refine sl_mv rfl rfl rfl ?_
  refine sl_bin rfl rfl rfl rfl rfl ?_
  refine sl_mv rfl rfl rfl ?_
  refine sl_case_at 10 rfl (fun hc => ?_) (fun hc => ?_)
  · have hc1 : i < 10 := by have := of_decide_eq_true hc; omega
    refine sl_guard_y rfl rfl rfl hc ?_
    refine sl_mv rfl rfl rfl ?_
    refine sl_guard_y rfl rfl rfl hc ?_
    refine sl_nc rfl rfl rfl rfl ?_
    refine sl_guard_y rfl rfl rfl hc ?_
    first
      | refine sl_fieldAddr_ptr rfl rfl rfl fo_89_0 ?_
      | refine sl_fieldAddr_rp rfl rfl rfl fo_89_0 ?_
      | refine sl_fieldAddr_ref rfl rfl rfl fo_89_0 ?_
    refine sl_guard_y rfl rfl rfl hc ?_
    first
      | refine sl_load_rp1 rfl rfl rfl ag_28 rfl ?_
      | refine sl_load_blk1 rfl rfl rfl ag_28 (by repeat constructor) rfl ?_
    refine sl_guard_y rfl rfl rfl hc ?_
    first
      | refine sl_len rfl rfl rfl ⟨_, u_28⟩ ?_
      | refine sl_len_sl rfl rfl rfl ⟨_, u_28⟩ ?_
      | refine sl_len_w _ rfl rfl rfl ⟨_, u_28⟩ ?_
    refine sl_guard_y rfl rfl rfl hc ?_
    refine sl_bin rfl rfl rfl rfl rfl ?_
    refine sl_pk_t rfl rfl rfl hc rfl ?_
    refine sl_callf rfl rfl cal_71 (must_ok (decide ((((m.map byteV).length : Nat) : Int) > 0)) (rd q m false :: σ)) ?_ ?_ ?_ (fun _ _ h => by obtain ⟨hb, rfl, rfl⟩ := h; have hm := len_pos_false hb; subst hm; exact ⟨rfl, _, Sub.refl _, by rw [hd]; rfl, rfl, _, rfl⟩)
    · repeat constructor
    · repeat constructor
    rintro _ _ ⟨hb, rfl, rfl⟩
    obtain ⟨x, m, rfl⟩ := len_pos_true hb
    refine sl_nil ?_
    refine sw_seq ?_
    refine sl_region ?_
    refine sl_mv rfl rfl rfl ?_
    refine sl_nc rfl rfl rfl rfl ?_
    first
      | refine sl_fieldAddr_ptr rfl rfl rfl fo_89_0 ?_
      | refine sl_fieldAddr_rp rfl rfl rfl fo_89_0 ?_
      | refine sl_fieldAddr_ref rfl rfl rfl fo_89_0 ?_
    first
      | refine sl_load_rp1 rfl rfl rfl ag_28 rfl ?_
      | refine sl_load_blk1 rfl rfl rfl ag_28 (by repeat constructor) rfl ?_
    refine sl_indexAddr' rfl rfl rfl rfl u_28 sz_5 (by decide) rfl rfl ?_
    first
      | refine sl_load_rp1 rfl rfl rfl ag_5 rfl ?_
      | refine sl_load_blk1 rfl rfl rfl ag_5 (by repeat constructor) rfl ?_
    refine sl_as rfl rfl rfl ?_
    refine sl_nil ?_
    refine sw_seq ?_
    refine sl_region ?_
    refine sl_mv rfl rfl rfl ?_
    refine sl_mv rfl rfl rfl ?_
    refine sl_nc rfl rfl rfl rfl ?_
    first
      | refine sl_fieldAddr_ptr rfl rfl rfl fo_89_0 ?_
      | refine sl_fieldAddr_rp rfl rfl rfl fo_89_0 ?_
      | refine sl_fieldAddr_ref rfl rfl rfl fo_89_0 ?_
    first
      | refine sl_load_rp1 rfl rfl rfl ag_28 rfl ?_
      | refine sl_load_blk1 rfl rfl rfl ag_28 (by repeat constructor) rfl ?_
    refine sl_slice_list 1 _ rfl rfl rfl u_28 sz_5 (fun x hx => (SzI.get (by repeat constructor) x hx).1) ⟨_, rfl⟩ rfl (by simp) (Nat.le_refl _) ?_
    refine sl_set 30 (.val (.list (m.map byteV))) (drop_one x m) ?_
    refine sl_nc rfl rfl rfl rfl ?_
    first
      | refine sl_fieldAddr_ptr rfl rfl rfl fo_89_0 ?_
      | refine sl_fieldAddr_rp rfl rfl rfl fo_89_0 ?_
      | refine sl_fieldAddr_ref rfl rfl rfl fo_89_0 ?_
    refine sl_stp rfl rfl rfl rfl sz_28 rfl rfl rfl (by repeat constructor) (Nat.le_of_ble_eq_true rfl) ?_
    refine sl_nil ?_
    refine sw_seq ?_
    refine sw_cutk ⟨60, (.cons 0 (.ptr q 0) (.cons 3 (.val (.int .u64 (n : Int))) (.cons 4 (.val (.int .i64 (i : Int))) (.cons 5 (.val (.int .u8 (x.toNat : Int))) .nil))))⟩ (rd q m false :: σ) (i < 9 ∨ i = 9 ∧ x.toNat ≤ 1) ?_ ?_
    · refine sl_region ?_
      refine sl_mv rfl rfl rfl ?_
      refine sl_bin rfl rfl rfl rfl rfl ?_
      refine sl_mv rfl rfl rfl ?_
      refine sl_case_at 35 rfl (fun h9 => ?_) (fun h9 => ?_)
      · refine sl_guard_n rfl rfl rfl h9 ?_
        refine sl_guard_n rfl rfl rfl h9 ?_
        refine sl_pk_t rfl rfl rfl h9 rfl ?_
        refine sl_callf rfl rfl cal_71 (must_ok true (rd q m false :: σ)) ?_ ?_ ?_ (fun _ _ h => by cases h.1)
        · repeat constructor
        · repeat constructor
        rintro _ _ ⟨hb, rfl, rfl⟩
        refine sl_nil ?_
        refine ⟨?_, ?_, rfl, .inl (by have := of_decide_eq_true h9; omega)⟩
        · exact ⟨rfl, by repeat constructor⟩
        · repeat constructor
      have h91 : ¬ i < 9 := by have := of_decide_eq_false h9; omega
      refine sl_guard_y rfl rfl rfl h9 ?_
      refine sl_mv rfl rfl rfl ?_
      refine sl_guard_y rfl rfl rfl h9 ?_
      refine sl_bin rfl rfl rfl rfl rfl ?_
      refine sl_pk_f rfl rfl rfl h9 rfl ?_
      refine sl_callf rfl rfl cal_71 (must_ok (decide ((x.toNat : Int) ≤ 1)) (rd q m false :: σ)) ?_ ?_ ?_ (fun _ _ h => by obtain ⟨hb, rfl, rfl⟩ := h; exact ⟨rfl, _, Sub.refl _, by rw [hd, decN_great h91 (by have := of_decide_eq_false hb; omega)]; rfl, rfl, _, rfl⟩)
      · repeat constructor
      · repeat constructor
      rintro _ _ ⟨hb, rfl, rfl⟩
      refine sl_nil ?_
      refine ⟨?_, ?_, rfl, .inr ⟨by omega, by have := of_decide_eq_true hb; omega⟩⟩
      · exact ⟨rfl, by repeat constructor⟩
      · repeat constructor
    intro hj
    have hj2 : i < 9 ∧ x.toNat % 128 < 128 ∨ i = 9 ∧ x.toNat % 128 ≤ 1 := by omega
    refine sw_seq ?_
    refine sl_region ?_
    refine sl_mv rfl rfl rfl ?_
    refine sl_mv rfl rfl rfl ?_
    refine sl_bin rfl rfl rfl rfl rfl ?_
    refine sl_set 42 (.val (.int .u8 ((x.toNat % 128 : Nat) : Int))) (mask_byte x) ?_
    refine sl_conv_int rfl rfl rfl is_5 u_62 ?_
    refine sl_set 43 (.val (.int .u64 ((x.toNat % 128 : Nat) : Int))) (congrArg (fun z => D.val (.int .u64 z)) (wrapped_u64 _ (by omega))) ?_
    refine sl_mv rfl rfl rfl ?_
    refine sl_bin rfl rfl rfl rfl rfl ?_
    refine sl_set 45 (.val (.int .i64 ((7 * i : Nat) : Int))) (congrArg (fun z => D.val (.int .i64 z)) (wrap_i64 (n := ((7 * i : Nat) : Int)) (by omega) (by omega))) ?_
    refine sl_conv_int rfl rfl rfl is_3 u_92 ?_
    refine sl_set 46 (.val (.int .u64 ((7 * i : Nat) : Int))) (congrArg (fun z => D.val (.int .u64 z)) (wrapped_u64 _ (by omega))) ?_
    refine sl_shl rfl rfl rfl rfl (by omega) ?_
    refine sl_set 47 (.val (.int .u64 ((128 ^ i * (x.toNat % 128) : Nat) : Int))) (shl_part hj2) ?_
    refine sl_bin rfl rfl rfl rfl rfl ?_
    refine sl_set 48 (.val (.int .u64 ((n + 128 ^ i * (x.toNat % 128) : Nat) : Int))) (or_part hn hj2) ?_
    refine sl_as rfl rfl rfl ?_
    refine sl_nil ?_
    refine sw_seq ?_
    refine sl_region ?_
    refine sl_mv rfl rfl rfl ?_
    refine sl_bin rfl rfl rfl rfl rfl ?_
    refine sl_bin rfl rfl rfl rfl rfl ?_
    refine sl_set 51 (.val (.bool (decide (x.toNat < 128)))) (top_byte x) ?_
    refine sl_nil ?_
    refine sw_cond rfl (fun hx => ?_) (fun hx => ?_)
    · have hx : x.toNat < 128 := of_decide_eq_true hx
      refine sw_seq ?_
      refine sl_region ?_
      refine sl_mv rfl rfl rfl ?_
      refine sl_bin rfl rfl rfl rfl rfl ?_
      refine sl_mv rfl rfl rfl ?_
      refine sl_case_at 54 rfl (fun hz => ?_) (fun hz => ?_)
      · have hz1 : x.toNat ≠ 0 := by intro h; rw [h] at hz; simp at hz
        refine sl_guard_n rfl rfl rfl hz ?_
        refine sl_guard_n rfl rfl rfl hz ?_
        refine sl_pk_t rfl rfl rfl hz rfl ?_
        refine sl_callf rfl rfl cal_71 (must_ok true (rd q m false :: σ)) ?_ ?_ ?_ (fun _ _ h => by cases h.1)
        · repeat constructor
        · repeat constructor
        rintro _ _ ⟨hb, rfl, rfl⟩
        refine sl_nil ?_
        refine sw_seq ?_
        refine sl_region ?_
        refine sl_mv rfl rfl rfl ?_
        refine sl_as rfl rfl rfl ?_
        refine sl_nil ?_
        refine sw_ret ⟨rfl, _, _, res_one rfl rfl, ?_, ⟨_, m, fin_dec hd (decN_last hj hx (.inl hz1)) hx, rfl, rfl⟩⟩
        repeat constructor
      have hz1 : x.toNat = 0 := by simpa using hz
      refine sl_guard_y rfl rfl rfl hz ?_
      refine sl_mv rfl rfl rfl ?_
      refine sl_guard_y rfl rfl rfl hz ?_
      refine sl_bin rfl rfl rfl rfl rfl ?_
      refine sl_pk_f rfl rfl rfl hz rfl ?_
      refine sl_callf rfl rfl cal_71 (must_ok ((i : Int) == 0) (rd q m false :: σ)) ?_ ?_ ?_ (fun _ _ h => by obtain ⟨hb, rfl, rfl⟩ := h; exact ⟨rfl, _, Sub.refl _, by rw [hd, decN_nought hz1 (by simpa using hb)]; rfl, rfl, _, rfl⟩)
      · repeat constructor
      · repeat constructor
      rintro _ _ ⟨hb, rfl, rfl⟩
      have hb : i = 0 := by simpa using hb
      refine sl_nil ?_
      refine sw_seq ?_
      refine sl_region ?_
      refine sl_mv rfl rfl rfl ?_
      refine sl_as rfl rfl rfl ?_
      refine sl_nil ?_
      refine sw_ret ⟨rfl, _, _, res_one rfl rfl, ?_, ⟨_, m, fin_dec hd (decN_last hj hx (.inr hb)) hx, rfl, rfl⟩⟩
      repeat constructor
    have hx : ¬ x.toNat < 128 := of_decide_eq_false hx
    refine sw_skip ?_
    refine sl_region ?_
    refine sl_mv rfl rfl rfl ?_
    first
      | refine sl_inc rfl rfl rfl rfl (by omega) ?_
      | refine sl_add rfl rfl rfl rfl (by constructor <;> omega) ?_
      | refine sl_bin rfl rfl rfl rfl rfl ?_
    refine sl_as rfl rfl rfl ?_
    refine sl_nil ?_
    refine ⟨_, by omega, _, _, ?_, ?_, i + 1, n + 128 ^ i * (x.toNat % 128), m, rfl, rfl, rfl, rfl, (by omega), (step_lt hn (by omega)), (step_dec hd hj hx)⟩
    · exact ⟨rfl, by repeat constructor⟩
    · repeat constructor
  have hc1 : ¬ i < 10 := by have := of_decide_eq_false hc; omega
  refine sl_guard_n rfl rfl rfl hc ?_
  refine sl_guard_n rfl rfl rfl hc ?_
  refine sl_guard_n rfl rfl rfl hc ?_
  refine sl_guard_n rfl rfl rfl hc ?_
  refine sl_guard_n rfl rfl rfl hc ?_
  refine sl_guard_n rfl rfl rfl hc ?_
  refine sl_pk_f rfl rfl rfl hc rfl ?_
  refine sl_callf rfl rfl cal_71 (must_ok false (rd q m false :: σ)) ?_ ?_ ?_ (fun _ _ h => by obtain ⟨_, rfl, rfl⟩ := h; exact ⟨rfl, _, Sub.refl _, by rw [hd, decN_long hc1]; rfl, rfl, _, rfl⟩)
  · repeat constructor
  · repeat constructor
  rintro _ _ ⟨⟨⟩, _, _⟩

/-- int reads a number with a sign. -/
theorem rint_ok (q : Nat) (l : List UInt8) (σ : List Chunk) :
    FSpecP Try.prog 73 [.ptr q 0] (rd q l false :: σ) (fun d σ' => ∃ v r, decI l = some (v, r) ∧ d = .val (i64V v) ∧ σ' = rd q r false :: σ)
      (fun ch σ' => decI l = none ∧ ch = stop ∧ ∃ r, σ' = rd q r false :: σ) := by
  refine spec_of_sw Try.func73 rfl ?_
  refine sw_seq ?_
  refine sl_region ?_
  refine sl_as rfl rfl rfl ?_
  refine sl_nil ?_
  refine sw_seq ?_
  refine sl_region ?_
  refine sl_mv rfl rfl rfl ?_
  refine sl_callf rfl rfl cal_61 (rnum_ok q l σ) ?_ ?_ ?_ (fun _ _ h => by obtain ⟨h1, rfl, r, rfl⟩ := h; exact ⟨rfl, _, Sub.refl _, by unfold decI; rw [h1]; rfl, rfl, _, rfl⟩)
  · repeat constructor
  · repeat constructor
  rintro _ _ ⟨n, r, hd, rfl, rfl⟩
  refine sl_as rfl rfl rfl ?_
  refine sl_nil ?_
  refine sw_seq ?_
  refine sl_region ?_
  refine sl_mv rfl rfl rfl ?_
  refine sl_shr rfl rfl rfl rfl (by decide) ?_
  refine sl_conv_int rfl rfl rfl is_62 u_2 ?_
  refine sl_mv rfl rfl rfl ?_
  refine sl_bin rfl rfl rfl rfl rfl ?_
  refine sl_conv_int rfl rfl rfl is_62 u_2 ?_
  refine sl_neg rfl rfl rfl ?_
  refine sl_bin rfl rfl rfl rfl rfl ?_
  refine sl_set 13 (.val (i64V (unzig n))) (unzig_bits (decN_lt64 hd)) ?_
  refine sl_as rfl rfl rfl ?_
  refine sl_nil ?_
  refine sw_ret ⟨rfl, _, _, res_one rfl rfl, ?_, ⟨_, r, by unfold decI; rw [hd]; rfl, rfl, rfl⟩⟩
  repeat constructor

end Go.Proofs.Ytipacoopapjdpaa

/- Walks: printed by a program of this session out of its script CodeD. -/
namespace Go.Proofs.Ytipacoopapjdpaa
set_option linter.unusedVariables false
set_option linter.unusedSimpArgs false
set_option maxRecDepth 4000
set_option maxHeartbeats 4000000
open Go Go.RowKit SL


/-- text reads a text. -/
theorem rtext_ok (q : Nat) (l : List UInt8) (σ : List Chunk) (hl : l.length ≤ 100000000) :
    FSpecP Try.prog 58 [.ptr q 0] (rd q l false :: σ) (fun d σ' => ∃ v r, decT l = some (v, r) ∧ d = .val (strV v) ∧ σ' = rd q r false :: σ)
      (fun ch σ' => decT l = none ∧ ch = stop ∧ ∃ r, σ' = rd q r false :: σ) := by
  refine spec_of_sw Try.func58 rfl ?_
  refine sw_seq ?_
  refine sl_region ?_
  refine sl_as rfl rfl rfl ?_
  refine sl_nil ?_
  refine sw_seq ?_
  refine sl_region ?_
  refine sl_mv rfl rfl rfl ?_
  refine sl_callf rfl rfl cal_61 (rnum_ok q l σ) ?_ ?_ ?_ (fun _ _ h => by obtain ⟨h1, rfl, r, rfl⟩ := h; exact ⟨rfl, _, Sub.refl _, by unfold decT; rw [h1], rfl, _, rfl⟩)
  · repeat constructor
  · repeat constructor
  rintro _ _ ⟨n, r, hd, rfl, rfl⟩
  refine sl_as rfl rfl rfl ?_
  refine sl_nil ?_
  refine sw_seq ?_
  refine sl_region ?_
  refine sl_mv rfl rfl rfl ?_
  refine sl_mv rfl rfl rfl ?_
  refine sl_nc rfl rfl rfl rfl ?_
  first
    | refine sl_fieldAddr_ptr rfl rfl rfl fo_89_0 ?_
    | refine sl_fieldAddr_rp rfl rfl rfl fo_89_0 ?_
    | refine sl_fieldAddr_ref rfl rfl rfl fo_89_0 ?_
  first
    | refine sl_load_rp1 rfl rfl rfl ag_28 rfl ?_
    | refine sl_load_blk1 rfl rfl rfl ag_28 (by repeat constructor) rfl ?_
  first
    | refine sl_len rfl rfl rfl ⟨_, u_28⟩ ?_
    | refine sl_len_sl rfl rfl rfl ⟨_, u_28⟩ ?_
    | refine sl_len_w _ rfl rfl rfl ⟨_, u_28⟩ ?_
  refine sl_conv_int rfl rfl rfl is_3 u_62 ?_
  have hr := Nat.le_trans (decN_len hd) hl
  refine sl_set 13 (.val (.int .u64 (r.length : Int))) (len_u64 hr) ?_
  refine sl_bin rfl rfl rfl rfl rfl ?_
  refine sl_callf rfl rfl cal_71 (must_ok (decide ((n : Int) ≤ (r.length : Int))) (rd q r false :: σ)) ?_ ?_ ?_ (fun _ _ h => by obtain ⟨hb, rfl, rfl⟩ := h; exact ⟨rfl, _, Sub.refl _, by unfold decT; rw [hd]; exact if_neg (by have := of_decide_eq_false hb; omega), rfl, _, rfl⟩)
  · repeat constructor
  · repeat constructor
  rintro _ _ ⟨hb, rfl, rfl⟩
  have hb : n ≤ r.length := by have := of_decide_eq_true hb; omega
  refine sl_nil ?_
  refine sw_seq ?_
  refine sl_region ?_
  refine sl_mv rfl rfl rfl ?_
  refine sl_nc rfl rfl rfl rfl ?_
  first
    | refine sl_fieldAddr_ptr rfl rfl rfl fo_89_0 ?_
    | refine sl_fieldAddr_rp rfl rfl rfl fo_89_0 ?_
    | refine sl_fieldAddr_ref rfl rfl rfl fo_89_0 ?_
  first
    | refine sl_load_rp1 rfl rfl rfl ag_28 rfl ?_
    | refine sl_load_blk1 rfl rfl rfl ag_28 (by repeat constructor) rfl ?_
  refine sl_mv rfl rfl rfl ?_
  refine sl_slice_list 0 n rfl rfl rfl u_28 sz_5 (fun x hx => (SzI.get (by repeat constructor) x hx).1) rfl ⟨_, rfl⟩ (Nat.zero_le _) (by simp; omega) ?_
  refine sl_set 21 (.val (.list ((r.take n).map byteV))) (take_bytes r n) ?_
  refine sl_bytes_str rfl rfl rfl u_28 u_5 u_9 ?_
  refine sl_as rfl rfl rfl ?_
  refine sl_nil ?_
  refine sw_seq ?_
  refine sl_region ?_
  refine sl_mv rfl rfl rfl ?_
  refine sl_mv rfl rfl rfl ?_
  refine sl_nc rfl rfl rfl rfl ?_
  first
    | refine sl_fieldAddr_ptr rfl rfl rfl fo_89_0 ?_
    | refine sl_fieldAddr_rp rfl rfl rfl fo_89_0 ?_
    | refine sl_fieldAddr_ref rfl rfl rfl fo_89_0 ?_
  first
    | refine sl_load_rp1 rfl rfl rfl ag_28 rfl ?_
    | refine sl_load_blk1 rfl rfl rfl ag_28 (by repeat constructor) rfl ?_
  refine sl_mv rfl rfl rfl ?_
  refine sl_slice_list n _ rfl rfl rfl u_28 sz_5 (fun x hx => (SzI.get (by repeat constructor) x hx).1) ⟨_, rfl⟩ rfl (by simp; omega) (Nat.le_refl _) ?_
  refine sl_set 29 (.val (.list ((r.drop n).map byteV))) (drop_bytes r n) ?_
  refine sl_nc rfl rfl rfl rfl ?_
  first
    | refine sl_fieldAddr_ptr rfl rfl rfl fo_89_0 ?_
    | refine sl_fieldAddr_rp rfl rfl rfl fo_89_0 ?_
    | refine sl_fieldAddr_ref rfl rfl rfl fo_89_0 ?_
  refine sl_stp rfl rfl rfl rfl sz_28 rfl rfl rfl (by repeat constructor) (Nat.le_of_ble_eq_true rfl) ?_
  refine sl_nil ?_
  refine sw_seq ?_
  refine sl_region ?_
  refine sl_mv rfl rfl rfl ?_
  refine sl_as rfl rfl rfl ?_
  refine sl_nil ?_
  refine sw_ret ⟨rfl, _, _, res_one rfl rfl, ?_, ⟨_, _, by unfold decT; rw [hd]; exact if_pos hb, rfl, rfl⟩⟩
  repeat constructor

/-- What try defers: nothing was raised. -/
theorem dtry_none (q b2 b4 : Nat) (x y : D) (σ : List Chunk) :
    DSpec Try.prog 70 [.ptr b2 0, .ptr b4 0] (.blk b2 [.ptr q 0] :: .blk b4 [y] :: .blk q [x, .val (.bool false)] :: σ) none
      (fun σ' => σ' = .blk b2 [.ptr q 0] :: .blk b4 [y] :: .blk q [x, .val (.bool false)] :: σ) := by
  refine dspec_recover (x := none) Try.func70 rfl rfl rfl rfl rfl (.val .nilIface) (fun C => .val _ _ .nilIface) rfl ?_
  refine sw_seq ?_
  refine sl_region ?_
  refine sl_mv rfl rfl rfl ?_
  refine sl_ne_if rfl rfl rfl ii_20 ?_
  refine sl_nil ?_
  refine sw_false rfl (rfl) ?_
  refine sw_skip ?_
  refine ⟨rfl, _, _, res_none rfl, ?_, rfl⟩
  repeat constructor

/-- What try defers: it was stopped. -/
theorem dtry_some (q b2 b4 : Nat) (x y : D) (σ : List Chunk) :
    DSpec Try.prog 70 [.ptr b2 0, .ptr b4 0] (.blk b2 [.ptr q 0] :: .blk b4 [y] :: .blk q [x, .val (.bool false)] :: σ) (some (.iface 112 (.agg #[])))
      (fun σ' => σ' = .blk b2 [.ptr q 0] :: .blk b4 [.val (.bool false)] :: .blk q [x, .val (.bool true)] :: σ) := by
  refine dspec_recover (x := some (.iface 112 (.agg #[]))) Try.func70 rfl rfl rfl rfl rfl (.iface 112 (.agg [])) (fun C => .iface _ _ _ (.agg _ _ rfl (fun k hk => absurd hk (by simp)))) rfl ?_
  refine sw_seq ?_
  refine sl_region ?_
  refine sl_mv rfl rfl rfl ?_
  refine sl_ne_if rfl rfl rfl ii_20 ?_
  refine sl_nil ?_
  refine sw_true rfl (rfl) ?_
  refine sw_seq ?_
  refine sw_seq ?_
  refine sl_region ?_
  refine sl_mv rfl rfl rfl ?_
  refine sl_ta rfl rfl rfl ni_112 ?_
  refine sl_mv rfl rfl rfl ?_
  refine sl_extract rfl rfl rfl rfl ?_
  refine sl_extract rfl rfl rfl rfl ?_
  refine sl_alloc rfl rfl zd_112 (fun b3 => ?_)
  refine sl_stp rfl rfl rfl rfl sz_112 rfl rfl rfl (by repeat constructor) (Nat.le_of_ble_eq_true rfl) ?_
  refine sl_as rfl rfl rfl ?_
  refine sl_nil ?_
  refine sw_seq ?_
  refine sl_region ?_
  refine sl_mv rfl rfl rfl ?_
  refine sl_not rfl rfl rfl ?_
  refine sl_nil ?_
  refine sw_false rfl (rfl) ?_
  refine sw_skip ?_
  refine sl_region ?_
  first
    | refine sl_load_rp1 rfl rfl rfl ag_57 rfl ?_
    | refine sl_load_blk1 rfl rfl rfl ag_57 (by repeat constructor) rfl ?_
  refine sl_nc rfl rfl rfl rfl ?_
  first
    | refine sl_fieldAddr_ptr rfl rfl rfl fo_89_1 ?_
    | refine sl_fieldAddr_rp rfl rfl rfl fo_89_1 ?_
    | refine sl_fieldAddr_ref rfl rfl rfl fo_89_1 ?_
  refine sl_stp rfl rfl rfl rfl sz_4 rfl rfl rfl (by repeat constructor) (Nat.le_of_ble_eq_true rfl) ?_
  refine sl_stp rfl rfl rfl rfl sz_4 rfl rfl rfl (by repeat constructor) (Nat.le_of_ble_eq_true rfl) ?_
  refine sl_nil ?_
  refine ⟨rfl, _, _, res_none rfl, ?_, rfl⟩
  repeat constructor

/-- try, of a reader that has failed. -/
theorem try_bad (fd : D) (q : Nat) (x : D) (σ : List Chunk) :
    FSpec Try.prog 56 [.ptr q 0, fd] (.blk q [x, .val (.bool true)] :: σ) (fun d σ' => d = .val (.bool false) ∧ σ' = .blk q [x, .val (.bool true)] :: σ) := by
  refine spec_of_defer Try.func56 rfl ?_
  refine sw_seq ?_
  refine sl_region ?_
  refine sl_bx rfl rfl rfl rfl (fun b2 => ?_)
  refine sl_alloc rfl rfl zd_4 (fun b4 => ?_)
  refine sl_nil ?_
  refine sw_seq ?_
  refine sw_seq ?_
  refine sl_region ?_
  first
    | refine sl_load_rp1 rfl rfl rfl ag_57 rfl ?_
    | refine sl_load_blk1 rfl rfl rfl ag_57 (by repeat constructor) rfl ?_
  refine sl_nc rfl rfl rfl rfl ?_
  first
    | refine sl_fieldAddr_ptr rfl rfl rfl fo_89_1 ?_
    | refine sl_fieldAddr_rp rfl rfl rfl fo_89_1 ?_
    | refine sl_fieldAddr_ref rfl rfl rfl fo_89_1 ?_
  first
    | refine sl_load_rp1 rfl rfl rfl ag_4 rfl ?_
    | refine sl_load_blk1 rfl rfl rfl ag_4 (by repeat constructor) rfl ?_
  refine sl_nil ?_
  refine sw_true rfl (rfl) ?_
  refine sw_seq ?_
  refine sl_region ?_
  refine sl_stp rfl rfl rfl rfl sz_4 rfl rfl rfl (by repeat constructor) (Nat.le_of_ble_eq_true rfl) ?_
  refine sl_nil ?_
  refine sw_ret ⟨rfl, _, _, res_cell rfl rfl ag_4 (by repeat constructor) rfl, ?_, ⟨rfl, rfl⟩⟩
  repeat constructor

/-- try, of a reader that hasn't. -/
theorem try_ok (g : FuncId) (hg : callable Try.prog g = true) (q b1 b3 : Nat) (x : D) (xs : List D) (Good : D → List D → Prop) (Bad : D → Prop) (σ : List Chunk)
    (hs : ∀ τ, FSpecP Try.prog g [.ptr b1 0, .ptr b3 0] (.blk q [x, .val (.bool false)] :: .blk b1 [.ptr q 0] :: .blk b3 xs :: τ)
      (fun d σ' => ∃ x' xs', Good x' xs' ∧ σ' = .blk q [x', .val (.bool false)] :: .blk b1 [.ptr q 0] :: .blk b3 xs' :: τ)
      (fun ch σ' => ch = stop ∧ ∃ x' xs', Bad x' ∧ σ' = .blk q [x', .val (.bool false)] :: .blk b1 [.ptr q 0] :: .blk b3 xs' :: τ)) :
    FSpec Try.prog 56 [.ptr q 0, .func g [.ptr b1 0, .ptr b3 0]] (.blk q [x, .val (.bool false)] :: .blk b1 [.ptr q 0] :: .blk b3 xs :: σ)
      (fun d σ' => ∃ x' xs' ok, d = .val (.bool ok) ∧ (ok = true → Good x' xs') ∧ (ok = false → Bad x') ∧ σ' = .blk q [x', .val (.bool (!ok))] :: .blk b1 [.ptr q 0] :: .blk b3 xs' :: σ) := by
  refine spec_of_defer Try.func56 rfl ?_
  refine sw_seq ?_
  refine sl_region ?_
  refine sl_bx rfl rfl rfl rfl (fun b2 => ?_)
  refine sl_alloc rfl rfl zd_4 (fun b4 => ?_)
  refine sl_nil ?_
  refine sw_seq ?_
  refine sw_seq ?_
  refine sl_region ?_
  first
    | refine sl_load_rp1 rfl rfl rfl ag_57 rfl ?_
    | refine sl_load_blk1 rfl rfl rfl ag_57 (by repeat constructor) rfl ?_
  refine sl_nc rfl rfl rfl rfl ?_
  first
    | refine sl_fieldAddr_ptr rfl rfl rfl fo_89_1 ?_
    | refine sl_fieldAddr_rp rfl rfl rfl fo_89_1 ?_
    | refine sl_fieldAddr_ref rfl rfl rfl fo_89_1 ?_
  first
    | refine sl_load_rp1 rfl rfl rfl ag_4 rfl ?_
    | refine sl_load_blk1 rfl rfl rfl ag_4 (by repeat constructor) rfl ?_
  refine sl_nil ?_
  refine sw_false rfl (rfl) ?_
  refine sw_skip ?_
  refine sw_seq ?_
  refine sl_region ?_
  refine sl_mf rfl rfl (.cons rfl (.cons rfl .nil)) ?_
  refine sl_defer rfl rfl rfl rfl ?_
  refine sl_nil ?_
  refine sw_seq ?_
  refine sl_region ?_
  refine sl_mv rfl rfl rfl ?_
  refine sl_callv rfl rfl rfl hg (hs (.blk b2 [.ptr q 0] :: .blk b4 [.val (.bool false)] :: σ)) ?_ ?_ ?_ (fun _ _ h => by obtain ⟨rfl, x', xs', hbad, rfl⟩ := h; exact ⟨_, rfl, cal_70, DSpec.use (dtry_some q b2 b4 x' (.val (.bool false)) (.blk b1 [.ptr q 0] :: .blk b3 xs' :: σ)) (by repeat constructor) (fun σ'' h => by subst h; exact ⟨_, _, res_cell rfl rfl ag_4 (by repeat constructor) rfl, (by repeat constructor), x', xs', false, rfl, fun h => absurd h (by decide), fun _ => hbad, rfl⟩)⟩)
  · repeat constructor
  · repeat constructor
  rintro _ _ ⟨x', xs', hgood, rfl⟩
  refine sl_nil ?_
  refine sw_seq ?_
  refine sl_region ?_
  refine sl_stp rfl rfl rfl rfl sz_4 rfl rfl rfl (by repeat constructor) (Nat.le_of_ble_eq_true rfl) ?_
  refine sl_nil ?_
  refine sw_ret ⟨cal_70, DSpec.use (dtry_none q b2 b4 x' (.val (.bool true)) (.blk b1 [.ptr q 0] :: .blk b3 xs' :: σ)) (by repeat constructor) (fun σ'' h => by subst h; exact ⟨_, _, res_cell rfl rfl ag_4 (by repeat constructor) rfl, (by repeat constructor), x', xs', true, rfl, fun _ => hgood, fun h => absurd h (by decide), rfl⟩)⟩

theorem cInt_ok (q b1 b3 : Nat) (y : D) (l : List UInt8) (σ : List Chunk) :
    FSpecP Try.prog 72 [.ptr b1 0, .ptr b3 0] (rd q l false :: .blk b1 [.ptr q 0] :: .blk b3 [y] :: σ)
      (fun d σ' => ∃ x' xs', GoodR (decI l) i64V x' xs' ∧ σ' = .blk q [x', .val (.bool false)] :: .blk b1 [.ptr q 0] :: .blk b3 xs' :: σ)
      (fun ch σ' => ch = stop ∧ ∃ x' xs', BadR (decI l) x' ∧ σ' = .blk q [x', .val (.bool false)] :: .blk b1 [.ptr q 0] :: .blk b3 xs' :: σ) := by
  refine spec_of_sw Try.func72 rfl ?_
  refine sl_region ?_
  first
    | refine sl_load_rp1 rfl rfl rfl ag_57 rfl ?_
    | refine sl_load_blk1 rfl rfl rfl ag_57 (by repeat constructor) rfl ?_
  refine sl_callf rfl rfl cal_73 (rint_ok q l (.blk b1 [.ptr q 0] :: .blk b3 [y] :: σ)) ?_ ?_ ?_ (fun _ _ h => by obtain ⟨h1, rfl, r, rfl⟩ := h; exact ⟨rfl, _, Sub.refl _, rfl, _, _, ⟨h1, _, rfl⟩, rfl⟩)
  · repeat constructor
  · repeat constructor
  rintro _ _ ⟨n, r, hd, rfl, rfl⟩
  refine sl_stp rfl rfl rfl rfl sz_2 rfl rfl rfl (by repeat constructor) (Nat.le_of_ble_eq_true rfl) ?_
  refine sl_nil ?_
  refine ⟨rfl, _, _, res_none rfl, ?_, ⟨_, _, ⟨_, _, hd, rfl, rfl⟩, rfl⟩⟩
  repeat constructor

/-- Int, of a reader. -/
theorem pInt_good (q : Nat) (l : List UInt8) (σ : List Chunk) (hl : l.length ≤ 100000000) :
    FSpec Try.prog 59 [.ptr q 0] (rd q l false :: σ) (fun d σ' => d = .val (i64V (rdOf (decI) (0 : Int) (some l)).1) ∧ ∃ c', Rdr q (rdOf (decI) (0 : Int) (some l)).2 c' ∧ σ' = c' :: σ) := by
  refine spec_of_sw Try.func59 rfl ?_
  refine sw_seq ?_
  refine sl_region ?_
  refine sl_bx rfl rfl rfl rfl (fun b1 => ?_)
  refine sl_as rfl rfl rfl ?_
  refine sl_nil ?_
  refine sw_seq ?_
  refine sl_region ?_
  refine sl_alloc rfl rfl zd_2 (fun b3 => ?_)
  refine sl_nil ?_
  refine sw_seq ?_
  refine sw_seq ?_
  refine sl_region ?_
  first
    | refine sl_load_rp1 rfl rfl rfl ag_57 rfl ?_
    | refine sl_load_blk1 rfl rfl rfl ag_57 (by repeat constructor) rfl ?_
  refine sl_mf rfl rfl (.cons rfl (.cons rfl .nil)) ?_
  refine sl_callf rfl rfl cal_56 (try_ok 72 cal_72 q b1 b3 (.val (.list (l.map byteV))) [.val (i64V (0 : Int))] (GoodR (decI l) i64V) (BadR (decI l)) σ (fun τ => cInt_ok q b1 b3 _ l τ)) ?_ ?_ ?_ (fun _ _ h => h.elim)
  · repeat constructor
  · repeat constructor
  rintro _ _ ⟨x', xs', ok, rfl, hgood, hbad, rfl⟩
  refine sl_nil ?_
  refine sw_cond rfl (fun hok => ?_) (fun hok => ?_)
  · obtain rfl : ok = true := hok
    obtain ⟨v, r, hd, rfl, rfl⟩ := hgood rfl
    refine sl_region ?_
    first
      | refine sl_load_rp1 rfl rfl rfl ag_2 rfl ?_
      | refine sl_load_blk1 rfl rfl rfl ag_2 (by repeat constructor) rfl ?_
    refine sl_as rfl rfl rfl ?_
    refine sl_nil ?_
    refine sw_seq ?_
    refine sl_region ?_
    refine sl_mv rfl rfl rfl ?_
    refine sl_as rfl rfl rfl ?_
    refine sl_nil ?_
    refine sw_ret ⟨rfl, _, _, res_one rfl rfl, ?_, by rw [rdOf_good hd]; exact ⟨rfl, _, ⟨rfl, Nat.le_trans (decI_len hd) hl⟩, rfl⟩⟩
    repeat constructor
  obtain rfl : ok = false := hok
  obtain ⟨hd, r, rfl⟩ := hbad rfl
  refine sw_skip ?_
  refine sw_seq ?_
  refine sl_region ?_
  refine sl_mv rfl rfl rfl ?_
  refine sl_as rfl rfl rfl ?_
  refine sl_nil ?_
  refine sw_ret ⟨rfl, _, _, res_one rfl rfl, ?_, by rw [rdOf_bad hd]; exact ⟨rfl, _, ⟨r, rfl⟩, rfl⟩⟩
  repeat constructor

theorem pInt_bad (q : Nat) (l : List UInt8) (σ : List Chunk) :
    FSpec Try.prog 59 [.ptr q 0] (rd q l true :: σ) (fun d σ' => d = .val (i64V (0 : Int)) ∧ σ' = rd q l true :: σ) := by
  refine spec_of_sw Try.func59 rfl ?_
  refine sw_seq ?_
  refine sl_region ?_
  refine sl_bx rfl rfl rfl rfl (fun b1 => ?_)
  refine sl_as rfl rfl rfl ?_
  refine sl_nil ?_
  refine sw_seq ?_
  refine sl_region ?_
  refine sl_alloc rfl rfl zd_2 (fun b3 => ?_)
  refine sl_nil ?_
  refine sw_seq ?_
  refine sw_seq ?_
  refine sl_region ?_
  first
    | refine sl_load_rp1 rfl rfl rfl ag_57 rfl ?_
    | refine sl_load_blk1 rfl rfl rfl ag_57 (by repeat constructor) rfl ?_
  refine sl_mf rfl rfl (.cons rfl (.cons rfl .nil)) ?_
  refine sl_callf rfl rfl cal_56 (try_bad (.func 72 [.ptr b1 0, .ptr b3 0]) q (.val (.list (l.map byteV))) (.blk b1 [.ptr q 0] :: .blk b3 [.val (i64V (0 : Int))] :: σ)) ?_ ?_ ?_ (fun _ _ h => h.elim)
  · repeat constructor
  · repeat constructor
  rintro _ _ ⟨rfl, rfl⟩
  refine sl_nil ?_
  refine sw_false rfl (rfl) ?_
  refine sw_skip ?_
  refine sw_seq ?_
  refine sl_region ?_
  refine sl_mv rfl rfl rfl ?_
  refine sl_as rfl rfl rfl ?_
  refine sl_nil ?_
  refine sw_ret ⟨rfl, _, _, res_one rfl rfl, ?_, ⟨rfl, rfl⟩⟩
  repeat constructor

theorem pInt_ok (q : Nat) (st : Option (List UInt8)) (c : Chunk) (σ : List Chunk) (h : Rdr q st c) :
    FSpec Try.prog 59 [.ptr q 0] (c :: σ) (fun d σ' => d = .val (i64V (rdOf (decI) (0 : Int) st).1) ∧ ∃ c', Rdr q (rdOf (decI) (0 : Int) st).2 c' ∧ σ' = c' :: σ) := by
  cases st with
  | some l => obtain ⟨rfl, hl⟩ := h; exact pInt_good q l σ hl
  | none => obtain ⟨r, rfl⟩ := h; exact (pInt_bad q r σ).mono fun d σ' h => ⟨h.1, _, ⟨r, rfl⟩, h.2⟩

theorem cNum_ok (q b1 b3 : Nat) (y : D) (l : List UInt8) (σ : List Chunk) :
    FSpecP Try.prog 60 [.ptr b1 0, .ptr b3 0] (rd q l false :: .blk b1 [.ptr q 0] :: .blk b3 [y] :: σ)
      (fun d σ' => ∃ x' xs', GoodR (decN 0 l) u64V x' xs' ∧ σ' = .blk q [x', .val (.bool false)] :: .blk b1 [.ptr q 0] :: .blk b3 xs' :: σ)
      (fun ch σ' => ch = stop ∧ ∃ x' xs', BadR (decN 0 l) x' ∧ σ' = .blk q [x', .val (.bool false)] :: .blk b1 [.ptr q 0] :: .blk b3 xs' :: σ) := by
  refine spec_of_sw Try.func60 rfl ?_
  refine sl_region ?_
  first
    | refine sl_load_rp1 rfl rfl rfl ag_57 rfl ?_
    | refine sl_load_blk1 rfl rfl rfl ag_57 (by repeat constructor) rfl ?_
  refine sl_callf rfl rfl cal_61 (rnum_ok q l (.blk b1 [.ptr q 0] :: .blk b3 [y] :: σ)) ?_ ?_ ?_ (fun _ _ h => by obtain ⟨h1, rfl, r, rfl⟩ := h; exact ⟨rfl, _, Sub.refl _, rfl, _, _, ⟨h1, _, rfl⟩, rfl⟩)
  · repeat constructor
  · repeat constructor
  rintro _ _ ⟨n, r, hd, rfl, rfl⟩
  refine sl_stp rfl rfl rfl rfl sz_62 rfl rfl rfl (by repeat constructor) (Nat.le_of_ble_eq_true rfl) ?_
  refine sl_nil ?_
  refine ⟨rfl, _, _, res_none rfl, ?_, ⟨_, _, ⟨_, _, hd, rfl, rfl⟩, rfl⟩⟩
  repeat constructor

/-- Num, of a reader. -/
theorem pNum_good (q : Nat) (l : List UInt8) (σ : List Chunk) (hl : l.length ≤ 100000000) :
    FSpec Try.prog 40 [.ptr q 0] (rd q l false :: σ) (fun d σ' => d = .val (u64V (rdOf (decN 0) (0 : Nat) (some l)).1) ∧ ∃ c', Rdr q (rdOf (decN 0) (0 : Nat) (some l)).2 c' ∧ σ' = c' :: σ) := by
  refine spec_of_sw Try.func40 rfl ?_
  refine sw_seq ?_
  refine sl_region ?_
  refine sl_bx rfl rfl rfl rfl (fun b1 => ?_)
  refine sl_as rfl rfl rfl ?_
  refine sl_nil ?_
  refine sw_seq ?_
  refine sl_region ?_
  refine sl_alloc rfl rfl zd_62 (fun b3 => ?_)
  refine sl_nil ?_
  refine sw_seq ?_
  refine sw_seq ?_
  refine sl_region ?_
  first
    | refine sl_load_rp1 rfl rfl rfl ag_57 rfl ?_
    | refine sl_load_blk1 rfl rfl rfl ag_57 (by repeat constructor) rfl ?_
  refine sl_mf rfl rfl (.cons rfl (.cons rfl .nil)) ?_
  refine sl_callf rfl rfl cal_56 (try_ok 60 cal_60 q b1 b3 (.val (.list (l.map byteV))) [.val (u64V (0 : Nat))] (GoodR (decN 0 l) u64V) (BadR (decN 0 l)) σ (fun τ => cNum_ok q b1 b3 _ l τ)) ?_ ?_ ?_ (fun _ _ h => h.elim)
  · repeat constructor
  · repeat constructor
  rintro _ _ ⟨x', xs', ok, rfl, hgood, hbad, rfl⟩
  refine sl_nil ?_
  refine sw_cond rfl (fun hok => ?_) (fun hok => ?_)
  · obtain rfl : ok = true := hok
    obtain ⟨v, r, hd, rfl, rfl⟩ := hgood rfl
    refine sl_region ?_
    first
      | refine sl_load_rp1 rfl rfl rfl ag_62 rfl ?_
      | refine sl_load_blk1 rfl rfl rfl ag_62 (by repeat constructor) rfl ?_
    refine sl_as rfl rfl rfl ?_
    refine sl_nil ?_
    refine sw_seq ?_
    refine sl_region ?_
    refine sl_mv rfl rfl rfl ?_
    refine sl_as rfl rfl rfl ?_
    refine sl_nil ?_
    refine sw_ret ⟨rfl, _, _, res_one rfl rfl, ?_, by rw [rdOf_good hd]; exact ⟨rfl, _, ⟨rfl, Nat.le_trans (decN_len hd) hl⟩, rfl⟩⟩
    repeat constructor
  obtain rfl : ok = false := hok
  obtain ⟨hd, r, rfl⟩ := hbad rfl
  refine sw_skip ?_
  refine sw_seq ?_
  refine sl_region ?_
  refine sl_mv rfl rfl rfl ?_
  refine sl_as rfl rfl rfl ?_
  refine sl_nil ?_
  refine sw_ret ⟨rfl, _, _, res_one rfl rfl, ?_, by rw [rdOf_bad hd]; exact ⟨rfl, _, ⟨r, rfl⟩, rfl⟩⟩
  repeat constructor

theorem pNum_bad (q : Nat) (l : List UInt8) (σ : List Chunk) :
    FSpec Try.prog 40 [.ptr q 0] (rd q l true :: σ) (fun d σ' => d = .val (u64V (0 : Nat)) ∧ σ' = rd q l true :: σ) := by
  refine spec_of_sw Try.func40 rfl ?_
  refine sw_seq ?_
  refine sl_region ?_
  refine sl_bx rfl rfl rfl rfl (fun b1 => ?_)
  refine sl_as rfl rfl rfl ?_
  refine sl_nil ?_
  refine sw_seq ?_
  refine sl_region ?_
  refine sl_alloc rfl rfl zd_62 (fun b3 => ?_)
  refine sl_nil ?_
  refine sw_seq ?_
  refine sw_seq ?_
  refine sl_region ?_
  first
    | refine sl_load_rp1 rfl rfl rfl ag_57 rfl ?_
    | refine sl_load_blk1 rfl rfl rfl ag_57 (by repeat constructor) rfl ?_
  refine sl_mf rfl rfl (.cons rfl (.cons rfl .nil)) ?_
  refine sl_callf rfl rfl cal_56 (try_bad (.func 60 [.ptr b1 0, .ptr b3 0]) q (.val (.list (l.map byteV))) (.blk b1 [.ptr q 0] :: .blk b3 [.val (u64V (0 : Nat))] :: σ)) ?_ ?_ ?_ (fun _ _ h => h.elim)
  · repeat constructor
  · repeat constructor
  rintro _ _ ⟨rfl, rfl⟩
  refine sl_nil ?_
  refine sw_false rfl (rfl) ?_
  refine sw_skip ?_
  refine sw_seq ?_
  refine sl_region ?_
  refine sl_mv rfl rfl rfl ?_
  refine sl_as rfl rfl rfl ?_
  refine sl_nil ?_
  refine sw_ret ⟨rfl, _, _, res_one rfl rfl, ?_, ⟨rfl, rfl⟩⟩
  repeat constructor

theorem pNum_ok (q : Nat) (st : Option (List UInt8)) (c : Chunk) (σ : List Chunk) (h : Rdr q st c) :
    FSpec Try.prog 40 [.ptr q 0] (c :: σ) (fun d σ' => d = .val (u64V (rdOf (decN 0) (0 : Nat) st).1) ∧ ∃ c', Rdr q (rdOf (decN 0) (0 : Nat) st).2 c' ∧ σ' = c' :: σ) := by
  cases st with
  | some l => obtain ⟨rfl, hl⟩ := h; exact pNum_good q l σ hl
  | none => obtain ⟨r, rfl⟩ := h; exact (pNum_bad q r σ).mono fun d σ' h => ⟨h.1, _, ⟨r, rfl⟩, h.2⟩

theorem cText_ok (q b1 b3 : Nat) (y : D) (l : List UInt8) (σ : List Chunk) (hl : l.length ≤ 100000000) :
    FSpecP Try.prog 57 [.ptr b1 0, .ptr b3 0] (rd q l false :: .blk b1 [.ptr q 0] :: .blk b3 [y] :: σ)
      (fun d σ' => ∃ x' xs', GoodR (decT l) strV x' xs' ∧ σ' = .blk q [x', .val (.bool false)] :: .blk b1 [.ptr q 0] :: .blk b3 xs' :: σ)
      (fun ch σ' => ch = stop ∧ ∃ x' xs', BadR (decT l) x' ∧ σ' = .blk q [x', .val (.bool false)] :: .blk b1 [.ptr q 0] :: .blk b3 xs' :: σ) := by
  refine spec_of_sw Try.func57 rfl ?_
  refine sl_region ?_
  first
    | refine sl_load_rp1 rfl rfl rfl ag_57 rfl ?_
    | refine sl_load_blk1 rfl rfl rfl ag_57 (by repeat constructor) rfl ?_
  refine sl_callf rfl rfl cal_58 (rtext_ok q l (.blk b1 [.ptr q 0] :: .blk b3 [y] :: σ) hl) ?_ ?_ ?_ (fun _ _ h => by obtain ⟨h1, rfl, r, rfl⟩ := h; exact ⟨rfl, _, Sub.refl _, rfl, _, _, ⟨h1, _, rfl⟩, rfl⟩)
  · repeat constructor
  · repeat constructor
  rintro _ _ ⟨n, r, hd, rfl, rfl⟩
  refine sl_stp rfl rfl rfl rfl sz_9 rfl rfl rfl (by repeat constructor) (Nat.le_of_ble_eq_true rfl) ?_
  refine sl_nil ?_
  refine ⟨rfl, _, _, res_none rfl, ?_, ⟨_, _, ⟨_, _, hd, rfl, rfl⟩, rfl⟩⟩
  repeat constructor

/-- Text, of a reader. -/
theorem pText_good (q : Nat) (l : List UInt8) (σ : List Chunk) (hl : l.length ≤ 100000000) :
    FSpec Try.prog 34 [.ptr q 0] (rd q l false :: σ) (fun d σ' => d = .val (strV (rdOf (decT) ([] : List UInt8) (some l)).1) ∧ ∃ c', Rdr q (rdOf (decT) ([] : List UInt8) (some l)).2 c' ∧ σ' = c' :: σ) := by
  refine spec_of_sw Try.func34 rfl ?_
  refine sw_seq ?_
  refine sl_region ?_
  refine sl_bx rfl rfl rfl rfl (fun b1 => ?_)
  refine sl_as rfl rfl rfl ?_
  refine sl_nil ?_
  refine sw_seq ?_
  refine sl_region ?_
  refine sl_alloc rfl rfl zd_9 (fun b3 => ?_)
  refine sl_nil ?_
  refine sw_seq ?_
  refine sw_seq ?_
  refine sl_region ?_
  first
    | refine sl_load_rp1 rfl rfl rfl ag_57 rfl ?_
    | refine sl_load_blk1 rfl rfl rfl ag_57 (by repeat constructor) rfl ?_
  refine sl_mf rfl rfl (.cons rfl (.cons rfl .nil)) ?_
  refine sl_callf rfl rfl cal_56 (try_ok 57 cal_57 q b1 b3 (.val (.list (l.map byteV))) [.val (strV ([] : List UInt8))] (GoodR (decT l) strV) (BadR (decT l)) σ (fun τ => cText_ok q b1 b3 _ l τ hl)) ?_ ?_ ?_ (fun _ _ h => h.elim)
  · repeat constructor
  · repeat constructor
  rintro _ _ ⟨x', xs', ok, rfl, hgood, hbad, rfl⟩
  refine sl_nil ?_
  refine sw_cond rfl (fun hok => ?_) (fun hok => ?_)
  · obtain rfl : ok = true := hok
    obtain ⟨v, r, hd, rfl, rfl⟩ := hgood rfl
    refine sl_region ?_
    first
      | refine sl_load_rp1 rfl rfl rfl ag_9 rfl ?_
      | refine sl_load_blk1 rfl rfl rfl ag_9 (by repeat constructor) rfl ?_
    refine sl_as rfl rfl rfl ?_
    refine sl_nil ?_
    refine sw_seq ?_
    refine sl_region ?_
    refine sl_mv rfl rfl rfl ?_
    refine sl_as rfl rfl rfl ?_
    refine sl_nil ?_
    refine sw_ret ⟨rfl, _, _, res_one rfl rfl, ?_, by rw [rdOf_good hd]; exact ⟨rfl, _, ⟨rfl, Nat.le_trans (decT_len hd) hl⟩, rfl⟩⟩
    repeat constructor
  obtain rfl : ok = false := hok
  obtain ⟨hd, r, rfl⟩ := hbad rfl
  refine sw_skip ?_
  refine sw_seq ?_
  refine sl_region ?_
  refine sl_mv rfl rfl rfl ?_
  refine sl_as rfl rfl rfl ?_
  refine sl_nil ?_
  refine sw_ret ⟨rfl, _, _, res_one rfl rfl, ?_, by rw [rdOf_bad hd]; exact ⟨rfl, _, ⟨r, rfl⟩, rfl⟩⟩
  repeat constructor

theorem pText_bad (q : Nat) (l : List UInt8) (σ : List Chunk) :
    FSpec Try.prog 34 [.ptr q 0] (rd q l true :: σ) (fun d σ' => d = .val (strV ([] : List UInt8)) ∧ σ' = rd q l true :: σ) := by
  refine spec_of_sw Try.func34 rfl ?_
  refine sw_seq ?_
  refine sl_region ?_
  refine sl_bx rfl rfl rfl rfl (fun b1 => ?_)
  refine sl_as rfl rfl rfl ?_
  refine sl_nil ?_
  refine sw_seq ?_
  refine sl_region ?_
  refine sl_alloc rfl rfl zd_9 (fun b3 => ?_)
  refine sl_nil ?_
  refine sw_seq ?_
  refine sw_seq ?_
  refine sl_region ?_
  first
    | refine sl_load_rp1 rfl rfl rfl ag_57 rfl ?_
    | refine sl_load_blk1 rfl rfl rfl ag_57 (by repeat constructor) rfl ?_
  refine sl_mf rfl rfl (.cons rfl (.cons rfl .nil)) ?_
  refine sl_callf rfl rfl cal_56 (try_bad (.func 57 [.ptr b1 0, .ptr b3 0]) q (.val (.list (l.map byteV))) (.blk b1 [.ptr q 0] :: .blk b3 [.val (strV ([] : List UInt8))] :: σ)) ?_ ?_ ?_ (fun _ _ h => h.elim)
  · repeat constructor
  · repeat constructor
  rintro _ _ ⟨rfl, rfl⟩
  refine sl_nil ?_
  refine sw_false rfl (rfl) ?_
  refine sw_skip ?_
  refine sw_seq ?_
  refine sl_region ?_
  refine sl_mv rfl rfl rfl ?_
  refine sl_as rfl rfl rfl ?_
  refine sl_nil ?_
  refine sw_ret ⟨rfl, _, _, res_one rfl rfl, ?_, ⟨rfl, rfl⟩⟩
  repeat constructor

theorem pText_ok (q : Nat) (st : Option (List UInt8)) (c : Chunk) (σ : List Chunk) (h : Rdr q st c) :
    FSpec Try.prog 34 [.ptr q 0] (c :: σ) (fun d σ' => d = .val (strV (rdOf (decT) ([] : List UInt8) st).1) ∧ ∃ c', Rdr q (rdOf (decT) ([] : List UInt8) st).2 c' ∧ σ' = c' :: σ) := by
  cases st with
  | some l => obtain ⟨rfl, hl⟩ := h; exact pText_good q l σ hl
  | none => obtain ⟨r, rfl⟩ := h; exact (pText_bad q r σ).mono fun d σ' h => ⟨h.1, _, ⟨r, rfl⟩, h.2⟩

/-- Done tells whether all was read. -/
theorem done_good (q : Nat) (l : List UInt8) (σ : List Chunk) : FSpec Try.prog 36 [.ptr q 0] (rd q l false :: σ) (fun d σ' => d = .val (.int .i64 (doneV (some l))) ∧ σ' = rd q l false :: σ) := by
  refine spec_of_sw Try.func36 rfl ?_
  refine sw_seq ?_
  refine sl_region ?_
  refine sl_as rfl rfl rfl ?_
  refine sl_nil ?_
  refine sw_seq ?_
  refine sw_seq ?_
  refine sl_region ?_
  refine sl_mv rfl rfl rfl ?_
  refine sl_nc rfl rfl rfl rfl ?_
  first
    | refine sl_fieldAddr_ptr rfl rfl rfl fo_89_1 ?_
    | refine sl_fieldAddr_rp rfl rfl rfl fo_89_1 ?_
    | refine sl_fieldAddr_ref rfl rfl rfl fo_89_1 ?_
  first
    | refine sl_load_rp1 rfl rfl rfl ag_4 rfl ?_
    | refine sl_load_blk1 rfl rfl rfl ag_4 (by repeat constructor) rfl ?_
  refine sl_mv rfl rfl rfl ?_
  refine sl_guard_y rfl rfl rfl (rfl) ?_
  refine sl_mv rfl rfl rfl ?_
  refine sl_guard_y rfl rfl rfl (rfl) ?_
  refine sl_nc rfl rfl rfl rfl ?_
  refine sl_guard_y rfl rfl rfl (rfl) ?_
  first
    | refine sl_fieldAddr_ptr rfl rfl rfl fo_89_0 ?_
    | refine sl_fieldAddr_rp rfl rfl rfl fo_89_0 ?_
    | refine sl_fieldAddr_ref rfl rfl rfl fo_89_0 ?_
  refine sl_guard_y rfl rfl rfl (rfl) ?_
  first
    | refine sl_load_rp1 rfl rfl rfl ag_28 rfl ?_
    | refine sl_load_blk1 rfl rfl rfl ag_28 (by repeat constructor) rfl ?_
  refine sl_guard_y rfl rfl rfl (rfl) ?_
  first
    | refine sl_len rfl rfl rfl ⟨_, u_28⟩ ?_
    | refine sl_len_sl rfl rfl rfl ⟨_, u_28⟩ ?_
    | refine sl_len_w _ rfl rfl rfl ⟨_, u_28⟩ ?_
  refine sl_guard_y rfl rfl rfl (rfl) ?_
  refine sl_bin rfl rfl rfl rfl rfl ?_
  refine sl_pk_f rfl rfl rfl (rfl) rfl ?_
  refine sl_nil ?_
  refine sw_cond rfl (fun h => ?_) (fun h => ?_)
  · obtain ⟨x, m, rfl⟩ := len_pos_true h
    refine sw_seq ?_
    refine sl_region ?_
    refine sl_as rfl rfl rfl ?_
    refine sl_nil ?_
    refine sw_ret ⟨rfl, _, _, res_one rfl rfl, ?_, ⟨rfl, rfl⟩⟩
    repeat constructor
  have hm := len_pos_false h
  subst hm
  refine sw_skip ?_
  refine sw_seq ?_
  refine sl_region ?_
  refine sl_as rfl rfl rfl ?_
  refine sl_nil ?_
  refine sw_ret ⟨rfl, _, _, res_one rfl rfl, ?_, ⟨rfl, rfl⟩⟩
  repeat constructor

theorem done_bad (q : Nat) (l : List UInt8) (σ : List Chunk) : FSpec Try.prog 36 [.ptr q 0] (rd q l true :: σ) (fun d σ' => d = .val (.int .i64 20) ∧ σ' = rd q l true :: σ) := by
  refine spec_of_sw Try.func36 rfl ?_
  refine sw_seq ?_
  refine sl_region ?_
  refine sl_as rfl rfl rfl ?_
  refine sl_nil ?_
  refine sw_seq ?_
  refine sw_seq ?_
  refine sl_region ?_
  refine sl_mv rfl rfl rfl ?_
  refine sl_nc rfl rfl rfl rfl ?_
  first
    | refine sl_fieldAddr_ptr rfl rfl rfl fo_89_1 ?_
    | refine sl_fieldAddr_rp rfl rfl rfl fo_89_1 ?_
    | refine sl_fieldAddr_ref rfl rfl rfl fo_89_1 ?_
  first
    | refine sl_load_rp1 rfl rfl rfl ag_4 rfl ?_
    | refine sl_load_blk1 rfl rfl rfl ag_4 (by repeat constructor) rfl ?_
  refine sl_mv rfl rfl rfl ?_
  refine sl_guard_n rfl rfl rfl (rfl) ?_
  refine sl_guard_n rfl rfl rfl (rfl) ?_
  refine sl_guard_n rfl rfl rfl (rfl) ?_
  refine sl_guard_n rfl rfl rfl (rfl) ?_
  refine sl_guard_n rfl rfl rfl (rfl) ?_
  refine sl_guard_n rfl rfl rfl (rfl) ?_
  refine sl_pk_t rfl rfl rfl (rfl) rfl ?_
  refine sl_nil ?_
  refine sw_true rfl (rfl) ?_
  refine sw_seq ?_
  refine sl_region ?_
  refine sl_as rfl rfl rfl ?_
  refine sl_nil ?_
  refine sw_ret ⟨rfl, _, _, res_one rfl rfl, ?_, ⟨rfl, rfl⟩⟩
  repeat constructor

theorem done_ok (q : Nat) (st : Option (List UInt8)) (c : Chunk) (σ : List Chunk) (h : Rdr q st c) :
    FSpec Try.prog 36 [.ptr q 0] (c :: σ) (fun d σ' => d = .val (.int .i64 (doneV st)) ∧ σ' = c :: σ) := by
  cases st with
  | some l => obtain ⟨rfl, hl⟩ := h; exact done_good q l σ
  | none => obtain ⟨r, rfl⟩ := h; exact done_bad q r σ

end Go.Proofs.Ytipacoopapjdpaa

/- Walks: printed by a program of this session out of its script CodeP. -/
namespace Go.Proofs.Ytipacoopapjdpaa
set_option linter.unusedVariables false
set_option linter.unusedSimpArgs false
set_option maxRecDepth 4000
set_option maxHeartbeats 4000000
open Go Go.RowKit SL


end Go.Proofs.Ytipacoopapjdpaa

/- Walks: printed by a program of this session out of its script CodeQ. -/
namespace Go.Proofs.Ytipacoopapjdpaa
set_option linter.unusedVariables false
set_option linter.unusedSimpArgs false
set_option maxRecDepth 4000
set_option maxHeartbeats 4000000
open Go Go.RowKit SL


end Go.Proofs.Ytipacoopapjdpaa

/- Walks: printed by a program of this session out of its script CodeE. -/
namespace Go.Proofs.Ytipacoopapjdpaa
set_option linter.unusedVariables false
set_option linter.unusedSimpArgs false
set_option maxRecDepth 4000
set_option maxHeartbeats 4000000
open Go Go.RowKit SL


theorem ints_known : ([] : List UInt8) ++ [(-1 : Int), 1].flatMap encInt = [1, 2] := by
  simp [encInt, zig, encNum_lt]

theorem zig_neg {n : Int} (h : isI64 n) (hn : n < 0) : D.val (.int .u64 (IntKind.u64.wrap (IntKind.u64.wrap (IntKind.u64.wrap (IntKind.i64.wrap (0 - (n + 1))) * 2) + 1))) = .val (u64V (zig n)) := by
  unfold isI64 at h
  rw [wrap_i64 (n := 0 - (n + 1)) (by omega) (by omega), wrap_u64 (n := 0 - (n + 1)) (by omega) (by omega), wrap_u64 (n := (0 - (n + 1)) * 2) (by omega) (by omega), wrap_u64 (by omega) (by omega)]
  unfold u64V zig
  rw [if_pos hn]
  congr 2; omega

theorem zig_pos {n : Int} (h : isI64 n) (hn : ¬ n < 0) : D.val (.int .u64 (IntKind.u64.wrap (IntKind.u64.wrap n * 2))) = .val (u64V (zig n)) := by
  unfold isI64 at h
  rw [wrap_u64 (n := n) (by omega) (by omega), wrap_u64 (by omega) (by omega)]
  unfold u64V zig
  rw [if_neg hn]
  congr 2; omega

theorem encNum_inj {a b : Nat} (ha : a < 18446744073709551616) (hb : b < 18446744073709551616) (h : encNum a = encNum b) : a = b := by
  have h1 := decN_enc ha []
  have h2 := decN_enc hb []
  rw [h, h2] at h1
  simpa using h1.symm

theorem encInt_inj {a b : Int} (ha : isI64 a) (hb : isI64 b) (h : encInt a = encInt b) : a = b := zig_inj (encNum_inj (zig_lt ha) (zig_lt hb) h)

theorem encNum_mono : ∀ (a b : Nat), a ≤ b → (encNum a).length ≤ (encNum b).length := by
  intro a
  induction a using Nat.strongRecOn with
  | _ a ih =>
    intro b hab
    by_cases ha : a < 128
    · rw [encNum_lt ha]; exact encNum_pos b
    · rw [encNum_ge (by omega), encNum_ge (n := b) (by omega)]
      have := ih (a / 128) (by omega) (b / 128) (by omega)
      simp only [List.length_cons]; omega

theorem ints_same {a b : Int} (ha : isI64 a) (hb : isI64 b) : (([] ++ [a].flatMap encInt == [] ++ [b].flatMap encInt) == (a == b)) = true := by
  have : [a].flatMap encInt = encInt a := by simp
  have h2 : [b].flatMap encInt = encInt b := by simp
  rw [this, h2, List.nil_append, List.nil_append]
  by_cases h : a = b
  · subst h; simp
  · have : ¬ encInt a = encInt b := fun e => h (encInt_inj ha hb e)
    rw [beq_eq_false_iff_ne.mpr this, beq_eq_false_iff_ne.mpr h]; rfl

theorem codeInts_1 {a b : Int} (ha : isI64 a) (hb : isI64 b) : ((encInt a == encInt b) == (a == b)) = true := by
  have := ints_same ha hb
  simpa using this

theorem dec_int {a : Int} (h : isI64 a) : rdOf decI (0 : Int) (some (encInt a)) = (a, some []) := by
  have := decI_enc h []
  rw [List.append_nil] at this
  exact rdOf_good this

theorem one_int (a : Int) : ([] : List UInt8) ++ [a].flatMap encInt = encInt a := by simp

theorem ints_short {a b : Int} (h : decide ((zig a : Int) > (zig b : Int)) = false) : decide ((((encInt a).map byteV).length : Int) ≤ (((encInt b).map byteV).length : Int)) = true := by
  have h := of_decide_eq_false h
  refine decide_eq_true ?_
  have := encNum_mono (zig a) (zig b) (by omega)
  simp only [List.length_map, encInt]; omega

end Go.Proofs.Ytipacoopapjdpaa

/- Walks: printed by a program of this session out of its script CodeF. -/
namespace Go.Proofs.Ytipacoopapjdpaa
set_option linter.unusedVariables false
set_option linter.unusedSimpArgs false
set_option maxRecDepth 4000
set_option maxHeartbeats 4000000
open Go Go.RowKit SL


theorem encText_len {s : List UInt8} (h : s.length ≤ 100) : (encText s).length ≤ 110 := by
  have := encNum_len (n := s.length) (by omega)
  unfold encText; rw [List.length_append]; omega

theorem encBool_len (b : Bool) : (encBool b).length ≤ 10 := by
  rw [encBool_eq]; simp

theorem flat_all {α : Type} {f : α → List UInt8} {c : Nat} {ns : List α} (h : ∀ n ∈ ns, (f n).length ≤ c) : (ns.flatMap f).length ≤ c * ns.length := by
  have := flat_len h ns.length
  rwa [List.take_length] at this

end Go.Proofs.Ytipacoopapjdpaa

/- Walks: printed by a program of this session out of its script CodeG. -/
namespace Go.Proofs.Ytipacoopapjdpaa
set_option linter.unusedVariables false
set_option linter.unusedSimpArgs false
set_option maxRecDepth 4000
set_option maxHeartbeats 4000000
open Go Go.RowKit SL


theorem rem_wrap {m : Int} : D.val (.int .i64 m) = .val (i64V m) := rfl

theorem len_ne_zero {m : List UInt8} (h : 0 < m.length) : ((((m.map byteV).length : Nat) : Int) == 0) = false := by
  rw [List.length_map, beq_eq_false_iff_ne]; omega

theorem ne_same {x y : List UInt8} (h : x = y) : (!(x == y)) = false := by subst h; simp

theorem encText_len2 {s : List UInt8} (h : s.length ≤ 200) : (encText s).length ≤ 210 := by
  have := encNum_len (n := s.length) (by omega)
  unfold encText; rw [List.length_append]; omega

end Go.Proofs.Ytipacoopapjdpaa

/- Walks: printed by a program of this session out of its script CodeH. -/
namespace Go.Proofs.Ytipacoopapjdpaa
set_option linter.unusedVariables false
set_option linter.unusedSimpArgs false
set_option maxRecDepth 4000
set_option maxHeartbeats 4000000
open Go Go.RowKit SL


end Go.Proofs.Ytipacoopapjdpaa

/- Walks: printed by a program of this session out of its script CodeI. -/
namespace Go.Proofs.Ytipacoopapjdpaa
set_option linter.unusedVariables false
set_option linter.unusedSimpArgs false
set_option maxRecDepth 4000
set_option maxHeartbeats 4000000
open Go Go.RowKit SL


/-- The document's numbers. -/
theorem xnum_ok (v : Value) (l : List UInt8) (n : Nat) (σ : List Chunk) (hn : n < 18446744073709551616) (hl : l.length + 10 ≤ 100000000) :
    FSpec Try.prog 37 [.own v (l.map byteV), .val (u64V n)] (.spare v 1 :: σ) (fun d σ' => ∃ v', d = .own v' ((l ++ encNum n).map byteV) ∧ σ' = .spare v' 1 :: σ) := by
  refine spec_of_sw Try.func37 rfl ?_
  refine sw_seq ?_
  refine sl_region ?_
  refine sl_as rfl rfl rfl ?_
  refine sl_nil ?_
  refine sw_seq ?_
  refine sw_block ?_
  refine sw_loopw (fun nX sX δX σX => ∃ (x : Nat) (v : Value) (m : List UInt8), (x) = nX ∧ sX = ⟨20, (.cons 0 (.own v (m.map byteV)) (.cons 1 (.val (.int .u64 (x : Int))) .nil))⟩ ∧ δX = [] ∧ σX = .spare v 1 :: σ ∧ (x < 18446744073709551616) ∧ (m ++ encNum x = l ++ encNum n)) ?_ ?_
  · refine ⟨_, _, _, ?_, ?_, n, v, l, rfl, rfl, rfl, rfl, (hn), (rfl)⟩
    · exact ⟨rfl, by repeat constructor⟩
    · repeat constructor
  rintro nX sX δX σX ⟨x, v, m, rfl, rfl, rfl, rfl, hx0, hm⟩
  have hml : m.length ≤ 99999999 := by
    have h1 := congrArg List.length hm
    have h2 := encNum_len hn
    have h3 := encNum_pos x
    simp only [List.length_append] at h1
    omega
  refine sw_seq ?_
  refine sw_seq ?_
  refine sl_region ?_
  refine sl_mv rfl rfl rfl ?_
  refine sl_bin rfl rfl rfl rfl rfl ?_
  refine sl_nil ?_
  refine sw_cond rfl (fun hx => ?_) (fun hx => ?_)
  · have hx : 128 ≤ x := by have := of_decide_eq_true hx; omega
    refine sw_skip ?_
    refine sw_block ?_
    refine sw_seq ?_
    refine sl_region ?_
    refine sl_mv rfl rfl rfl ?_
    refine sl_mv rfl rfl rfl ?_
    refine sl_conv_int rfl rfl rfl is_62 u_5 ?_
    refine sl_bin rfl rfl rfl rfl rfl ?_
    refine sl_bs1 rfl rfl (.cons rfl .nil) u_28 sz_5 zs_5 (by decide) rfl rfl rfl rfl ?_
    refine sl_appp rfl rfl rfl rfl u_28 ⟨_, u_28, rfl⟩ el_5 (by repeat constructor) (by repeat constructor) (by simp; omega) ((by rw [List.map_append]; exact congrArg _ (congrArg (fun z => [z]) (hi_byte x)) : _ = (m ++ [UInt8.ofNat (x % 128 + 128)]).map byteV)) (by repeat constructor) (fun v12 => ?_)
    refine sl_as rfl rfl rfl ?_
    refine sl_nil ?_
    refine sl_region ?_
    refine sl_mv rfl rfl rfl ?_
    refine sl_shr rfl rfl rfl rfl (by decide) ?_
    refine sl_set 14 (.val (.int .u64 ((x / 128 : Nat) : Int))) (shr7 x) ?_
    refine sl_as rfl rfl rfl ?_
    refine sl_nil ?_
    refine ⟨_, by omega, _, _, ?_, ?_, x / 128, v12, m ++ [UInt8.ofNat (x % 128 + 128)], rfl, rfl, rfl, rfl, (by omega), (by rw [← hm, encNum_ge hx]; simp)⟩
    · exact ⟨rfl, by repeat constructor⟩
    · repeat constructor
  have hx : x < 128 := by have := of_decide_eq_false hx; omega
  refine sw_exit ?_
  refine sw_seq ?_
  refine sl_region ?_
  refine sl_mv rfl rfl rfl ?_
  refine sl_mv rfl rfl rfl ?_
  refine sl_conv_int rfl rfl rfl is_62 u_5 ?_
  refine sl_bs1 rfl rfl (.cons rfl .nil) u_28 sz_5 zs_5 (by decide) rfl rfl rfl rfl ?_
  refine sl_appp rfl rfl rfl rfl u_28 ⟨_, u_28, rfl⟩ el_5 (by repeat constructor) (by repeat constructor) (by simp; omega) ((by rw [List.map_append]; exact congrArg _ (congrArg (fun z => [z]) (lo_byte x)) : _ = (m ++ [UInt8.ofNat x]).map byteV)) (by repeat constructor) (fun v19 => ?_)
  refine sl_as rfl rfl rfl ?_
  refine sl_nil ?_
  have e : m ++ [UInt8.ofNat x] = l ++ encNum n := by rw [← hm, encNum_lt hx]
  rw [e]
  refine sw_ret ⟨rfl, _, _, res_one rfl rfl, ?_, ⟨v19, rfl, rfl⟩⟩
  repeat constructor

/-- The document's numbers with signs. -/
theorem xint_ok (v : Value) (l : List UInt8) (n : Int) (σ : List Chunk) (h : isI64 n) (hl : l.length + 10 ≤ 100000000) :
    FSpec Try.prog 38 [.own v (l.map byteV), .val (i64V n)] (.spare v 1 :: σ) (fun d σ' => ∃ v', d = .own v' ((l ++ encInt n).map byteV) ∧ σ' = .spare v' 1 :: σ) := by
  have h' := h
  unfold isI64 at h'
  refine spec_of_sw Try.func38 rfl ?_
  refine sw_seq ?_
  refine sl_region ?_
  refine sl_as rfl rfl rfl ?_
  refine sl_nil ?_
  refine sw_seq ?_
  refine sw_seq ?_
  refine sl_region ?_
  refine sl_mv rfl rfl rfl ?_
  refine sl_bin rfl rfl rfl rfl rfl ?_
  refine sl_nil ?_
  refine sw_cond rfl (fun hn => ?_) (fun hn => ?_)
  · have hn : n < 0 := of_decide_eq_true hn
    refine sw_seq ?_
    refine sl_region ?_
    refine sl_mv rfl rfl rfl ?_
    refine sl_mv rfl rfl rfl ?_
    first
      | refine sl_inc rfl rfl rfl rfl (by omega) ?_
      | refine sl_add rfl rfl rfl rfl (by constructor <;> omega) ?_
      | refine sl_bin rfl rfl rfl rfl rfl ?_
    refine sl_neg rfl rfl rfl ?_
    refine sl_conv_int rfl rfl rfl is_2 u_62 ?_
    refine sl_bin rfl rfl rfl rfl rfl ?_
    refine sl_bin rfl rfl rfl rfl rfl ?_
    refine sl_set 13 (.val (u64V (zig n))) (zig_neg h hn) ?_
    refine sl_callf rfl rfl cal_37 (xnum_ok v l (zig n) σ (zig_lt h) hl) ?_ ?_ ?_ (fun _ _ h => h.elim)
    · repeat constructor
    · repeat constructor
    rintro _ _ ⟨v2, rfl, rfl⟩
    refine sl_as rfl rfl rfl ?_
    refine sl_nil ?_
    refine sw_ret ⟨rfl, _, _, res_one rfl rfl, ?_, ⟨v2, rfl, rfl⟩⟩
    repeat constructor
  have hn : ¬ n < 0 := of_decide_eq_false hn
  refine sw_skip ?_
  refine sw_seq ?_
  refine sl_region ?_
  refine sl_mv rfl rfl rfl ?_
  refine sl_mv rfl rfl rfl ?_
  refine sl_conv_int rfl rfl rfl is_2 u_62 ?_
  refine sl_bin rfl rfl rfl rfl rfl ?_
  refine sl_set 18 (.val (u64V (zig n))) (zig_pos h hn) ?_
  refine sl_callf rfl rfl cal_37 (xnum_ok v l (zig n) σ (zig_lt h) hl) ?_ ?_ ?_ (fun _ _ h => h.elim)
  · repeat constructor
  · repeat constructor
  rintro _ _ ⟨v2, rfl, rfl⟩
  refine sl_as rfl rfl rfl ?_
  refine sl_nil ?_
  refine sw_ret ⟨rfl, _, _, res_one rfl rfl, ?_, ⟨v2, rfl, rfl⟩⟩
  repeat constructor

/-- The document's texts. -/
theorem xtext_ok (v : Value) (l : List UInt8) (s : List UInt8) (σ : List Chunk) (hs : s.length ≤ 1000000) (hl : l.length + 1000010 ≤ 100000000) :
    FSpec Try.prog 39 [.own v (l.map byteV), .val (strV s)] (.spare v 1 :: σ) (fun d σ' => ∃ v', d = .own v' ((l ++ encText s).map byteV) ∧ σ' = .spare v' 1 :: σ) := by
  refine spec_of_sw Try.func39 rfl ?_
  refine sw_seq ?_
  refine sl_region ?_
  refine sl_as rfl rfl rfl ?_
  refine sl_nil ?_
  refine sw_seq ?_
  refine sl_region ?_
  refine sl_mv rfl rfl rfl ?_
  refine sl_mv rfl rfl rfl ?_
  refine sl_len_str rfl rfl rfl u_9 ?_
  refine sl_conv_int rfl rfl rfl is_3 u_62 ?_
  refine sl_set 8 (.val (u64V s.length)) (congrArg (fun z => D.val (.int .u64 z)) (wrapped_u64 _ (by omega))) ?_
  have hel := encNum_len (n := s.length) (by omega)
  refine sl_callf rfl rfl cal_37 (xnum_ok v l s.length σ (by omega) (by omega)) ?_ ?_ ?_ (fun _ _ h => h.elim)
  · repeat constructor
  · repeat constructor
  rintro _ _ ⟨v2, rfl, rfl⟩
  refine sl_mv rfl rfl rfl ?_
  refine sl_app_strp rfl rfl rfl rfl u_28 u_9 el_5 (by repeat constructor) (by simp; omega) ((by rw [← List.map_append] : _ = ((l ++ encNum s.length) ++ s).map byteV)) (by repeat constructor) (fun v11 => ?_)
  refine sl_as rfl rfl rfl ?_
  refine sl_nil ?_
  have e : (l ++ encNum s.length) ++ s = l ++ encText s := by simp [encText]
  rw [e]
  refine sw_ret ⟨rfl, _, _, res_one rfl rfl, ?_, ⟨v11, rfl, rfl⟩⟩
  repeat constructor

/-- The document's alarms. -/
theorem xalarms_ok (v : Value) (l : List UInt8) (al : List Alm) (σ : List Chunk) (ha : ∀ a ∈ al, AlmOk a) (hn : al.length ≤ 1000000) (hl : l.length + 20 * al.length + 10 ≤ 100000000) :
    FSpec Try.prog 41 [.own v (l.map byteV), .val (.list (al.map almV))] (.spare v 1 :: σ) (fun d σ' => ∃ v', d = .own v' ((l ++ encAlarms al).map byteV) ∧ σ' = .spare v' 1 :: σ) := by
  refine spec_of_sw Try.func41 rfl ?_
  refine sw_seq ?_
  refine sl_region ?_
  refine sl_as rfl rfl rfl ?_
  refine sl_nil ?_
  refine sw_seq ?_
  refine sl_region ?_
  refine sl_mv rfl rfl rfl ?_
  refine sl_mv rfl rfl rfl ?_
  first
    | refine sl_len rfl rfl rfl ⟨_, u_30⟩ ?_
    | refine sl_len_sl rfl rfl rfl ⟨_, u_30⟩ ?_
    | refine sl_len_w _ rfl rfl rfl ⟨_, u_30⟩ ?_
  refine sl_conv_int rfl rfl rfl is_3 u_62 ?_
  refine sl_set 9 (.val (u64V al.length)) (len_u64m almV (by omega)) ?_
  refine sl_callf rfl rfl cal_37 (xnum_ok v l al.length σ (by omega) (by omega)) ?_ ?_ ?_ (fun _ _ h => h.elim)
  · repeat constructor
  · repeat constructor
  rintro _ _ ⟨v2, rfl, rfl⟩
  have hn1 := encNum_len (n := al.length) (by omega)
  refine sl_as rfl rfl rfl ?_
  refine sl_nil ?_
  refine sw_seq ?_
  refine sw_seq ?_
  refine sl_region ?_
  refine sl_as rfl rfl rfl ?_
  refine sl_nil ?_
  refine sw_block ?_
  refine sw_loopw (fun nX sX δX σX => ∃ (j : Nat) (v : Value) (m : List UInt8), (al.length - j) = nX ∧ sX = ⟨31, (.cons 0 (.own v (m.map byteV)) (.cons 1 (.val (.list (al.map almV))) (.cons 5 (.val (.int .i64 (j : Int))) .nil)))⟩ ∧ δX = [] ∧ σX = .spare v 1 :: σ ∧ (j ≤ al.length) ∧ (m = l ++ encNum al.length ++ (al.take j).flatMap encAlarm)) ?_ ?_
  · refine ⟨_, _, _, ?_, ?_, 0, v2, l ++ encNum al.length, rfl, rfl, rfl, rfl, (Nat.zero_le _), (by simp)⟩
    · exact ⟨rfl, by repeat constructor⟩
    · repeat constructor
  rintro nX sX δX σX ⟨j, v, m, rfl, rfl, rfl, rfl, hj0, hm⟩
  refine sw_seq ?_
  refine sw_seq ?_
  refine sl_region ?_
  refine sl_mv rfl rfl rfl ?_
  refine sl_mv rfl rfl rfl ?_
  first
    | refine sl_len rfl rfl rfl ⟨_, u_30⟩ ?_
    | refine sl_len_sl rfl rfl rfl ⟨_, u_30⟩ ?_
    | refine sl_len_w _ rfl rfl rfl ⟨_, u_30⟩ ?_
  refine sl_bin rfl rfl rfl rfl rfl ?_
  refine sl_nil ?_
  refine sw_cond rfl (fun hj => ?_) (fun hj => ?_)
  · have hj : j < al.length := by simpa using hj
    have hao1 := ha al[j] (List.getElem_mem hj)
    have h1 := encInt_len hao1.1
    have hml : m.length + 20 ≤ 100000000 := by
      have := flat_len (f := encAlarm) (c := 20) (ns := al) (fun a h => encAlarm_len (ha a h)) j
      rw [hm]; simp only [List.length_append]; omega
    refine sw_skip ?_
    refine sw_seq ?_
    refine sw_block ?_
    refine sa_start [] mixed ?_
    refine sa_take 0 rfl rfl (by kernel_rfl) .nil (pu_mv rfl rfl) ?_
    refine sa_take 1 rfl rfl (by kernel_rfl) .nil (pu_mv rfl rfl) ?_
    refine sa_take 2 rfl rfl (by kernel_rfl) .nil (pu_mv rfl rfl) ?_
    refine sa_take 3 rfl rfl (by kernel_rfl) .nil (pu_indexAddr rfl rfl rfl u_30 sz_55 (by omega) (idx_map hj) rfl) ?_
    first
      | refine sa_take 4 rfl rfl (by kernel_rfl) .nil (pu_fieldAddr_ptr rfl rfl fo_55_0) ?_
      | refine sa_take 4 rfl rfl (by kernel_rfl) .nil (pu_fieldAddr_rp rfl rfl fo_55_0) ?_
      | refine sa_take 4 rfl rfl (by kernel_rfl) .nil (pu_fieldAddr_ref rfl rfl fo_55_0) ?_
    refine sa_take 5 rfl rfl (by kernel_rfl) .nil (pu_load_rp1 rfl rfl ag_3 rfl) ?_
    refine sa_take 7 rfl rfl (by kernel_rfl) .nil (pu_mv rfl rfl) ?_
    refine sa_take 8 rfl rfl (by kernel_rfl) .nil (pu_mv rfl rfl) ?_
    refine sa_take 9 rfl rfl (by kernel_rfl) .nil (pu_indexAddr rfl rfl rfl u_30 sz_55 (by omega) (idx_map hj) rfl) ?_
    first
      | refine sa_take 10 rfl rfl (by kernel_rfl) .nil (pu_fieldAddr_ptr rfl rfl fo_55_1) ?_
      | refine sa_take 10 rfl rfl (by kernel_rfl) .nil (pu_fieldAddr_rp rfl rfl fo_55_1) ?_
      | refine sa_take 10 rfl rfl (by kernel_rfl) .nil (pu_fieldAddr_ref rfl rfl fo_55_1) ?_
    refine sa_take 11 rfl rfl (by kernel_rfl) .nil (pu_load_rp1 rfl rfl ag_3 rfl) ?_
    refine sa_one 6 (by kernel_rfl) rfl ?_
    refine sl_callf rfl rfl cal_38 (xint_ok v m al[j].pos σ hao1.1 (by omega)) ?_ ?_ ?_ (fun _ _ h => h.elim)
    · repeat constructor
    · repeat constructor
    rintro _ _ ⟨v3, rfl, rfl⟩
    refine sl_nil ⟨.nil, ?_⟩
    refine sa_one 12 (by kernel_rfl) rfl ?_
    refine sl_callf rfl rfl cal_38 (xint_ok v3 (m ++ encInt al[j].pos) al[j].kind σ hao1.2 (by rw [List.length_append]; omega)) ?_ ?_ ?_ (fun _ _ h => h.elim)
    · repeat constructor
    · repeat constructor
    rintro _ _ ⟨v4, rfl, rfl⟩
    refine sl_nil ⟨.nil, ?_⟩
    refine sa_one 13 (by kernel_rfl) rfl ?_
    refine sl_as rfl rfl rfl ?_
    refine sl_nil ⟨.nil, ?_⟩
    refine sa_done (by kernel_rfl) ?_
    refine sl_region ?_
    refine sl_mv rfl rfl rfl ?_
    first
      | refine sl_inc rfl rfl rfl rfl (by omega) ?_
      | refine sl_add rfl rfl rfl rfl (by constructor <;> omega) ?_
      | refine sl_bin rfl rfl rfl rfl rfl ?_
    refine sl_as rfl rfl rfl ?_
    refine sl_nil ?_
    have e2 : m ++ encInt al[j].pos ++ encInt al[j].kind = l ++ encNum al.length ++ (al.take (j + 1)).flatMap encAlarm := by
      rw [flat_snoc hj, hm]; simp [encAlarm]
    refine ⟨_, by omega, _, _, ?_, ?_, j + 1, v4, _, rfl, rfl, rfl, rfl, (by omega), (e2)⟩
    · exact ⟨rfl, by repeat constructor⟩
    · repeat constructor
  have hj : j = al.length := by have h9 : ¬ j < al.length := (by simpa using hj); omega
  subst hj
  rw [List.take_length] at hm
  have e3 : m = l ++ encAlarms al := by rw [hm]; simp [encAlarms]
  subst e3
  refine sw_exit ?_
  refine sw_seq ?_
  refine sl_region ?_
  refine sl_mv rfl rfl rfl ?_
  refine sl_as rfl rfl rfl ?_
  refine sl_nil ?_
  refine sw_ret ⟨rfl, _, _, res_one rfl rfl, ?_, ⟨v, rfl, rfl⟩⟩
  repeat constructor

end Go.Proofs.Ytipacoopapjdpaa

/- Walks: printed by a program of this session out of its script CodeJ. -/
namespace Go.Proofs.Ytipacoopapjdpaa
set_option linter.unusedVariables false
set_option linter.unusedSimpArgs false
set_option maxRecDepth 4000
set_option maxHeartbeats 4000000
open Go Go.RowKit SL


end Go.Proofs.Ytipacoopapjdpaa

/- Walks: printed by a program of this session out of its script CodeK. -/
namespace Go.Proofs.Ytipacoopapjdpaa
set_option linter.unusedVariables false
set_option linter.unusedSimpArgs false
set_option maxRecDepth 4000
set_option maxHeartbeats 4000000
open Go Go.RowKit SL


end Go.Proofs.Ytipacoopapjdpaa

/- Walks: printed by a program of this session out of its script CodeL. -/
namespace Go.Proofs.Ytipacoopapjdpaa
set_option linter.unusedVariables false
set_option linter.unusedSimpArgs false
set_option maxRecDepth 4000
set_option maxHeartbeats 4000000
open Go Go.RowKit SL


theorem cov_alm (n : Nat) : Covers Try.prog n 55 fun xs => ∃ a : Alm, xs = (almV a).cells ∧ AlmOk a := by
  cases n with
  | zero => exact covers_zero
  | succ n =>
    refine (covers_struct Try.underlying55 (Ss := [fun xs => ∃ a : Int, xs = (i64V a).cells ∧ isI64 a, fun xs => ∃ a : Int, xs = (i64V a).cells ∧ isI64 a])
      ⟨rfl, cov_i64 Try.underlying3 n, by kernel_rfl, cov_i64 Try.underlying3 n, show (_ : Nat) = _ by kernel_rfl⟩).mono fun xs h => ?_
    obtain ⟨_, _, rfl, ⟨lo, rfl, h1⟩, _, _, rfl, ⟨hi, rfl, h2⟩, rfl⟩ := h
    exact ⟨⟨lo, hi⟩, rfl, h1, h2⟩

theorem cov_alms (n : Nat) : Covers Try.prog n 30 fun xs => ∃ al : List Alm, xs = [.list (al.map almV)] ∧ (∀ a ∈ al, AlmOk a) ∧ al.length ≤ maxLen :=
  cov_list (sz := 2) almV .agg (fun _ => rfl) Try.underlying30 (by kernel_rfl) (by decide) cov_alm n
end Go.Proofs.Ytipacoopapjdpaa

/- Walks: printed by a program of this session out of its script CodeM. -/
namespace Go.Proofs.Ytipacoopapjdpaa
set_option linter.unusedVariables false
set_option linter.unusedSimpArgs false
set_option maxRecDepth 4000
set_option maxHeartbeats 4000000
open Go Go.RowKit SL


theorem num9 {l : List UInt8} {i : Nat} (h : i < l.length) (h9 : i = 9) : D.val (.bool (decide ((l[i].toNat : Int) > 1))) = .val (.bool (numStop l i)) := by
  by_cases h1 : l[i].toNat ≤ 1
  · exact numStop_f (decide_eq_false (by omega)) ⟨h, .inr ⟨h9, by rw [getD_at h]; exact h1⟩⟩
  · exact numStop_t (decide_eq_true (by omega)) (fun hg => by have := hg.2; rw [getD_at h] at this; omega)

theorem rdOf_lt {st : Option (List UInt8)} : (rdOf (decN 0) 0 st).1 < 18446744073709551616 := by
  cases st with
  | none => simp [rdOf]
  | some l =>
    cases e : decN 0 l with
    | none => rw [rdOf_bad e]; simp
    | some p => rw [rdOf_good (v := p.1) (r := p.2) (by rw [e])]; exact decN_lt64 (r := p.2) (by rw [e])

theorem rdOf_int (st : Option (List UInt8)) : rdOf decI (0 : Int) st = (unzig (rdOf (decN 0) 0 st).1, (rdOf (decN 0) 0 st).2) := by
  cases st with
  | none => rfl
  | some l =>
    cases e : decN 0 l with
    | none => rw [rdOf_bad e, rdOf_bad (by unfold decI; rw [e]; rfl)]; rfl
    | some p => rw [rdOf_good (v := p.1) (r := p.2) (by rw [e]), rdOf_good (v := unzig p.1) (r := p.2) (by unfold decI; rw [e]; rfl)]

theorem odd_bit (n : Nat) (h : n < 18446744073709551616) : D.val (.bool (IntKind.u64.wrap ((BitVec.ofInt IntKind.u64.bits (n : Int) &&& BitVec.ofInt IntKind.u64.bits 1).toNat : Int) == 1)) = .val (.bool (decide (n % 2 = 1))) := by
  have h1 : (BitVec.ofInt IntKind.u64.bits (n : Int) &&& BitVec.ofInt IntKind.u64.bits 1).toNat = n % 2 := by
    show (BitVec.ofInt 64 (n : Int) &&& BitVec.ofInt 64 1).toNat = n % 2
    have h2 : (BitVec.ofInt 64 1).toNat = 1 := by decide
    rw [BitVec.toNat_and, h2, BitVec.toNat_ofInt]
    have : ((n : Int) % ((2 ^ 64 : Nat) : Int)).toNat = n := by omega
    rw [this, Nat.and_one_is_mod]
  rw [h1, wrapped_u64 _ (by omega)]
  by_cases h : n % 2 = 1
  · rw [h]; rfl
  · rw [show n % 2 = 0 by omega]; rfl

theorem half_eq {n : Nat} (h : n < 18446744073709551616) : D.val (.int .i64 (IntKind.i64.wrap ((n : Int).fdiv (2 ^ (min (1 : Int).toNat IntKind.u64.bits))))) = .val (.int .i64 ((n / 2 : Nat) : Int)) := by
  have e1 : min (1 : Int).toNat IntKind.u64.bits = 1 := by decide
  rw [e1, Int.fdiv_eq_ediv_of_nonneg _ (by decide)]
  have h3 : ((n : Int) / 2 ^ 1) = ((n / 2 : Nat) : Int) := by omega
  rw [h3, wrap_i64 (n := ((n / 2 : Nat) : Int)) (by omega) (by omega)]

theorem half_neg {n : Nat} (ho : n % 2 = 1) : D.val (.int .i64 ((0 - ((n / 2 : Nat) : Int)) - 1)) = .val (i64V (unzig n)) := by
  unfold i64V unzig
  rw [if_pos ho]
  congr 2; omega

theorem half_pos {n : Nat} (h : n < 18446744073709551616) (ho : ¬ n % 2 = 1) : D.val (.int .i64 (IntKind.i64.wrap ((n : Int).fdiv (2 ^ (min (1 : Int).toNat IntKind.u64.bits))))) = .val (i64V (unzig n)) := by
  have e1 : min (1 : Int).toNat IntKind.u64.bits = 1 := by decide
  rw [e1, Int.fdiv_eq_ediv_of_nonneg _ (by decide)]
  have h3 : ((n : Int) / 2 ^ 1) = ((n / 2 : Nat) : Int) := by omega
  rw [h3, wrap_i64 (n := ((n / 2 : Nat) : Int)) (by omega) (by omega)]
  unfold i64V unzig
  rw [if_neg ho]

theorem decT_of {l r : List UInt8} {n : Nat} (h : decN 0 l = some (n, r)) : decT l = if n ≤ r.length then some (r.take n, r.drop n) else none := by
  unfold decT; rw [h]

end Go.Proofs.Ytipacoopapjdpaa

/- Walks: printed by a program of this session out of its script CodeN. -/
namespace Go.Proofs.Ytipacoopapjdpaa
set_option linter.unusedVariables false
set_option linter.unusedSimpArgs false
set_option maxRecDepth 4000
set_option maxHeartbeats 4000000
open Go Go.RowKit SL


end Go.Proofs.Ytipacoopapjdpaa

/- Walks: printed by a program of this session out of its script CodeO. -/
namespace Go.Proofs.Ytipacoopapjdpaa
set_option linter.unusedVariables false
set_option linter.unusedSimpArgs false
set_option maxRecDepth 4000
set_option maxHeartbeats 4000000
open Go Go.RowKit SL


end Go.Proofs.Ytipacoopapjdpaa

/- Walks: printed by a program of this session out of its script CodeR. -/
namespace Go.Proofs.Ytipacoopapjdpaa
set_option linter.unusedVariables false
set_option linter.unusedSimpArgs false
set_option maxRecDepth 4000
set_option maxHeartbeats 4000000
open Go Go.RowKit SL


def GoodS (res : Option (Smy × List UInt8)) (x : D) (xs : List D) : Prop := ∃ v r, res = some (v, r) ∧ x = .val (.list (r.map byteV)) ∧ xs = (smyCells v).map D.val
abbrev zeroS : List D := [.fix [], .val (.bool false), .val (.bool false), .val (.int .i64 0), .val (.int .i64 0), .fix []]

end Go.Proofs.Ytipacoopapjdpaa

/- Walks: printed by a program of this session out of its script CodeS. -/
namespace Go.Proofs.Ytipacoopapjdpaa
set_option linter.unusedVariables false
set_option linter.unusedSimpArgs false
set_option maxRecDepth 4000
set_option maxHeartbeats 4000000
open Go Go.RowKit SL


end Go.Proofs.Ytipacoopapjdpaa

/- Walks: printed by a program of this session out of its script CodeT. -/
namespace Go.Proofs.Ytipacoopapjdpaa
set_option linter.unusedVariables false
set_option linter.unusedSimpArgs false
set_option maxRecDepth 4000
set_option maxHeartbeats 4000000
open Go Go.RowKit SL


end Go.Proofs.Ytipacoopapjdpaa

/- Walks: printed by a program of this session out of its script CodeU. -/
namespace Go.Proofs.Ytipacoopapjdpaa
set_option linter.unusedVariables false
set_option linter.unusedSimpArgs false
set_option maxRecDepth 4000
set_option maxHeartbeats 4000000
open Go Go.RowKit SL


end Go.Proofs.Ytipacoopapjdpaa

/- Walks: printed by a program of this session out of its script CodeV. -/
namespace Go.Proofs.Ytipacoopapjdpaa
set_option linter.unusedVariables false
set_option linter.unusedSimpArgs false
set_option maxRecDepth 4000
set_option maxHeartbeats 4000000
open Go Go.RowKit SL


end Go.Proofs.Ytipacoopapjdpaa
