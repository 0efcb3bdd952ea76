/- Walks: printed by a program of this session out of its script CodeH. -/
import Derived.Test.YtioechdfghglhaaSlT
import Derived.Test.YtioechdfghglhaaP7
import Derived.Test.YtioechdfghglhaaCodeG
namespace Go.Proofs.Ytioechdfghglhaa
set_option linter.unusedVariables false
set_option linter.unusedSimpArgs false
set_option maxRecDepth 4000
set_option maxHeartbeats 4000000
open Go Go.RowKit SL


/-- ival writes an interval. -/
theorem wival_ok (p : Nat) (v : Value) (l : List UInt8) (i : Ivl) (σ : List Chunk) (hi : IvlOk i) (hl : l.length + 30 ≤ 100000000) :
    FSpec Try.prog 81 [.ptr p 0, .val (ivlV i)] (.blk p [.own v (l.map byteV)] :: .spare v 1 :: σ)
      (fun d σ' => d = .tup [] ∧ ∃ v', σ' = .blk p [.own v' ((l ++ encIval i).map byteV)] :: .spare v' 1 :: σ) := by
  refine spec_of_sw Try.func81 rfl ?_
  refine sw_seq ?_
  refine sl_region ?_
  refine sl_bx_imm rfl rfl rfl rfl rfl ?_
  refine sl_nil ?_
  refine sw_seq ?_
  refine sl_region ?_
  refine sl_mv rfl rfl rfl ?_
  first
    | refine sl_fieldAddr_ptr rfl rfl rfl fo_69_0 ?_
    | refine sl_fieldAddr_rp rfl rfl rfl fo_69_0 ?_
    | refine sl_fieldAddr_ref rfl rfl rfl fo_69_0 ?_
  first
    | refine sl_load_rp1 rfl rfl rfl ag_4 rfl ?_
    | refine sl_load_blk1 rfl rfl rfl ag_4 (by first | exact List.Mem.head _ | exact List.Mem.tail _ (List.Mem.head _) | exact List.Mem.tail _ (List.Mem.tail _ (List.Mem.head _)) | exact List.Mem.tail _ (List.Mem.tail _ (List.Mem.tail _ (List.Mem.head _))) | exact List.Mem.tail _ (List.Mem.tail _ (List.Mem.tail _ (List.Mem.tail _ (List.Mem.head _)))) | exact List.Mem.tail _ (List.Mem.tail _ (List.Mem.tail _ (List.Mem.tail _ (List.Mem.tail _ (List.Mem.head _)))))) rfl ?_
  refine sl_bs1 rfl rfl (.cons rfl .nil) u_54 sz_4 zs_4 (by decide) rfl rfl rfl rfl ?_
  refine sl_callf rfl rfl cal_30 (bool_ok p v l [i.some] σ (by simp only [List.length_cons, List.length_nil]; omega)) ?_ ?_ ?_ (fun _ _ h => h.elim)
  · repeat (first | exact Weaks.nil | refine Weaks.cons (Weak.junk _) ?_ | refine Weaks.cons (Weak.refl _) ?_ | refine Weaks.cons (Weak.toV rfl) ?_ | refine Weaks.cons (Weak.ref _) ?_ | refine Weaks.cons (Weak.rp_agg _) ?_)
  · repeat (first | exact Sub.refl _ | exact Sub.none _ | refine Sub.p0 ?_ | refine Sub.p1 ?_ | refine Sub.p2 ?_ | refine Sub.p3 ?_ | refine Sub.p4 ?_ | refine Sub.p5 ?_ | refine Sub.p6 ?_ | refine Sub.drop ?_)
  rintro _ _ ⟨rfl, v2, rfl⟩
  have e1 : l ++ [i.some].flatMap encBool = l ++ encBool i.some := by simp
  rw [e1]
  have hb := encBool_len1 i.some
  refine sl_nil ?_
  refine sw_seq ?_
  refine sl_region ?_
  first
    | refine sl_fieldAddr_ptr rfl rfl rfl fo_69_0 ?_
    | refine sl_fieldAddr_rp rfl rfl rfl fo_69_0 ?_
    | refine sl_fieldAddr_ref rfl rfl rfl fo_69_0 ?_
  first
    | refine sl_load_rp1 rfl rfl rfl ag_4 rfl ?_
    | refine sl_load_blk1 rfl rfl rfl ag_4 (by first | exact List.Mem.head _ | exact List.Mem.tail _ (List.Mem.head _) | exact List.Mem.tail _ (List.Mem.tail _ (List.Mem.head _)) | exact List.Mem.tail _ (List.Mem.tail _ (List.Mem.tail _ (List.Mem.head _))) | exact List.Mem.tail _ (List.Mem.tail _ (List.Mem.tail _ (List.Mem.tail _ (List.Mem.head _)))) | exact List.Mem.tail _ (List.Mem.tail _ (List.Mem.tail _ (List.Mem.tail _ (List.Mem.tail _ (List.Mem.head _)))))) rfl ?_
  refine sl_nil ?_
  refine sw_cond rfl (fun h => ?_) (fun h => ?_)
  · refine sl_region ?_
    refine sl_mv rfl rfl rfl ?_
    first
      | refine sl_fieldAddr_ptr rfl rfl rfl fo_69_1 ?_
      | refine sl_fieldAddr_rp rfl rfl rfl fo_69_1 ?_
      | refine sl_fieldAddr_ref rfl rfl rfl fo_69_1 ?_
    first
      | refine sl_load_rp1 rfl rfl rfl ag_2 rfl ?_
      | refine sl_load_blk1 rfl rfl rfl ag_2 (by first | exact List.Mem.head _ | exact List.Mem.tail _ (List.Mem.head _) | exact List.Mem.tail _ (List.Mem.tail _ (List.Mem.head _)) | exact List.Mem.tail _ (List.Mem.tail _ (List.Mem.tail _ (List.Mem.head _))) | exact List.Mem.tail _ (List.Mem.tail _ (List.Mem.tail _ (List.Mem.tail _ (List.Mem.head _)))) | exact List.Mem.tail _ (List.Mem.tail _ (List.Mem.tail _ (List.Mem.tail _ (List.Mem.tail _ (List.Mem.head _)))))) rfl ?_
    first
      | refine sl_fieldAddr_ptr rfl rfl rfl fo_69_2 ?_
      | refine sl_fieldAddr_rp rfl rfl rfl fo_69_2 ?_
      | refine sl_fieldAddr_ref rfl rfl rfl fo_69_2 ?_
    first
      | refine sl_load_rp1 rfl rfl rfl ag_2 rfl ?_
      | refine sl_load_blk1 rfl rfl rfl ag_2 (by first | exact List.Mem.head _ | exact List.Mem.tail _ (List.Mem.head _) | exact List.Mem.tail _ (List.Mem.tail _ (List.Mem.head _)) | exact List.Mem.tail _ (List.Mem.tail _ (List.Mem.tail _ (List.Mem.head _))) | exact List.Mem.tail _ (List.Mem.tail _ (List.Mem.tail _ (List.Mem.tail _ (List.Mem.head _)))) | exact List.Mem.tail _ (List.Mem.tail _ (List.Mem.tail _ (List.Mem.tail _ (List.Mem.tail _ (List.Mem.head _)))))) rfl ?_
    refine sl_bs1 rfl rfl (.cons rfl (.cons rfl .nil)) u_52 sz_2 zs_2 (by decide) rfl rfl rfl rfl ?_
    refine sl_callf rfl rfl cal_17 (int_ok p v2 (l ++ encBool i.some) [i.lo, i.hi] σ (by intro n hn; simp at hn; rcases hn with rfl | rfl; exact hi.1; exact hi.2) (by simp only [List.length_append, List.length_cons, List.length_nil]; omega)) ?_ ?_ ?_ (fun _ _ h => h.elim)
    · repeat (first | exact Weaks.nil | refine Weaks.cons (Weak.junk _) ?_ | refine Weaks.cons (Weak.refl _) ?_ | refine Weaks.cons (Weak.toV rfl) ?_ | refine Weaks.cons (Weak.ref _) ?_ | refine Weaks.cons (Weak.rp_agg _) ?_)
    · repeat (first | exact Sub.refl _ | exact Sub.none _ | refine Sub.p0 ?_ | refine Sub.p1 ?_ | refine Sub.p2 ?_ | refine Sub.p3 ?_ | refine Sub.p4 ?_ | refine Sub.p5 ?_ | refine Sub.p6 ?_ | refine Sub.drop ?_)
    rintro _ _ ⟨rfl, v3, rfl⟩
    have e2 : l ++ encBool i.some ++ [i.lo, i.hi].flatMap encInt = l ++ encIval i := by
      unfold encIval; rw [if_pos h]; simp
    rw [e2]
    refine sl_nil ?_
    refine ⟨rfl, _, _, res_none rfl, ?_, ⟨rfl, v3, rfl⟩⟩
    repeat (first | exact Sub.refl _ | exact Sub.none _ | refine Sub.p0 ?_ | refine Sub.p1 ?_ | refine Sub.p2 ?_ | refine Sub.p3 ?_ | refine Sub.p4 ?_ | refine Sub.p5 ?_ | refine Sub.p6 ?_ | refine Sub.drop ?_)
  · have e2 : l ++ encBool i.some = l ++ encIval i := by
      unfold encIval; rw [if_neg (by rw [show i.some = false from h]; simp)]; simp
    rw [e2]
    refine sw_skip ?_
    refine ⟨rfl, _, _, res_none rfl, ?_, ⟨rfl, v2, rfl⟩⟩
    repeat (first | exact Sub.refl _ | exact Sub.none _ | refine Sub.p0 ?_ | refine Sub.p1 ?_ | refine Sub.p2 ?_ | refine Sub.p3 ?_ | refine Sub.p4 ?_ | refine Sub.p5 ?_ | refine Sub.p6 ?_ | refine Sub.drop ?_)

/-- Writer.Summary writes summaries. -/
theorem wsumm_ok (p : Nat) (v : Value) (l : List UInt8) (ss : List Smy) (σ : List Chunk) (hok : ∀ s ∈ ss, SmyOk s) (hlt : ∀ s ∈ ss, SmyLight s) (hl : l.length + 1100 * ss.length ≤ 100000000) :
    FSpec Try.prog 37 [.ptr p 0, .val (.list (ss.map smyV))] (.blk p [.own v (l.map byteV)] :: .spare v 1 :: σ)
      (fun d σ' => d = .tup [] ∧ ∃ v', σ' = .blk p [.own v' ((l ++ ss.flatMap encSumm).map byteV)] :: .spare v' 1 :: σ) := by
  refine spec_of_sw Try.func37 rfl ?_
  refine sw_seq ?_
  refine sl_region ?_
  refine sl_mv rfl rfl rfl ?_
  first
    | refine sl_len rfl rfl rfl ⟨_, u_124⟩ ?_
    | refine sl_len_sl rfl rfl rfl ⟨_, u_124⟩ ?_
  refine sl_mv rfl rfl rfl ?_
  refine sl_nil ?_
  refine sw_block ?_
  refine sw_set 11 (.val (.int .i64 (ss.length : Int))) (len_eq (List.length_map ..)) ?_
  refine sw_loopw (fun nX sX δX σX => ∃ (k : Nat) (v : Value) (m : List UInt8), (ss.length - k) = nX ∧ sX = ⟨86, (.cons 0 (.ptr p 0) (.cons 10 (.val (.list (ss.map smyV))) (.cons 11 (.val (.int .i64 (ss.length : Int))) (.cons 12 (.val (.int .i64 (k : Int))) .nil))))⟩ ∧ δX = [] ∧ σX = .blk p [.own v (m.map byteV)] :: .spare v 1 :: σ ∧ k ≤ ss.length ∧ m = l ++ (ss.take k).flatMap encSumm) ?_ ?_
  · refine ⟨_, _, _, ?_, ?_, 0, v, l, rfl, rfl, rfl, rfl, Nat.zero_le _, by simp⟩
    · refine ⟨rfl, ?_⟩; repeat (first | exact WkL.nil | refine WkL.cons (Weak.refl _) ?_ | refine WkL.cons (Weak.toV rfl) ?_ | refine WkL.cons (Weak.ref _) ?_ | refine WkL.cons (Weak.rp_agg _) ?_)
    · repeat (first | exact Sub.refl _ | exact Sub.none _ | refine Sub.p0 ?_ | refine Sub.p1 ?_ | refine Sub.p2 ?_ | refine Sub.p3 ?_ | refine Sub.p4 ?_ | refine Sub.p5 ?_ | refine Sub.p6 ?_ | refine Sub.drop ?_)
  · rintro nX sX δX σX ⟨k, v, m, rfl, rfl, rfl, rfl, hk0, hm0⟩
    refine sw_seq ?_
    refine sl_region ?_
    refine sl_bin rfl rfl rfl rfl rfl ?_
    refine sl_nil ?_
    refine sw_seq ?_
    refine sw_cond rfl (fun hk => ?_) (fun hk => ?_)
    · have hk : k < ss.length := by simpa using hk
      have hso := hok ss[k] (List.getElem_mem hk)
      have hsl := hlt ss[k] (List.getElem_mem hk)
      have hml : m.length + 1100 ≤ 100000000 := by
        have := flat_len (f := encSumm) (c := 1100) (ns := ss) (fun s hs => encSumm_len (hok s hs) (hlt s hs)) k
        have h2 : 1100 * (k + 1) ≤ 1100 * ss.length := Nat.mul_le_mul (Nat.le_refl _) hk
        rw [hm0, List.length_append]; omega
      obtain ⟨hal, hmd, hnm⟩ := hsl
      obtain ⟨hao, hro, hmo⟩ := hso
      refine sw_skip ?_
      refine sw_seq ?_
      refine sw_block ?_
      refine sw_seq ?_
      refine sl_region ?_
      refine sl_indexAddr' rfl rfl rfl rfl u_124 sz_72 (by omega) (idx_map hk) rfl ?_
      first
        | refine sl_load_rpn rfl rfl rfl ag_72 sz_72 (Nat.le_of_ble_eq_true rfl) ?_
        | refine sl_load_blkn rfl rfl rfl ag_72 sz_72 (by first | exact List.Mem.head _ | exact List.Mem.tail _ (List.Mem.head _) | exact List.Mem.tail _ (List.Mem.tail _ (List.Mem.head _)) | exact List.Mem.tail _ (List.Mem.tail _ (List.Mem.tail _ (List.Mem.head _))) | exact List.Mem.tail _ (List.Mem.tail _ (List.Mem.tail _ (List.Mem.tail _ (List.Mem.head _)))) | exact List.Mem.tail _ (List.Mem.tail _ (List.Mem.tail _ (List.Mem.tail _ (List.Mem.tail _ (List.Mem.head _)))))) (Nat.le_of_ble_eq_true rfl) ?_
        | refine sl_load_ref rfl rfl rfl ag_72 sz_72 (Nat.le_of_ble_eq_true rfl) ?_
      refine sl_alloc rfl rfl zd_72 (fun b5 => ?_)
      first
        | refine sl_st rfl rfl rfl rfl sz_72 rfl rfl rfl (Nat.le_of_ble_eq_true rfl) ?_
        | (refine sl_f1 ?_; refine sl_st rfl rfl rfl rfl sz_72 rfl rfl rfl (Nat.le_of_ble_eq_true rfl) ?_)
        | (refine sl_f2 ?_; refine sl_st rfl rfl rfl rfl sz_72 rfl rfl rfl (Nat.le_of_ble_eq_true rfl) ?_)
        | (refine sl_f3 ?_; refine sl_st rfl rfl rfl rfl sz_72 rfl rfl rfl (Nat.le_of_ble_eq_true rfl) ?_)
        | (refine sl_f4 ?_; refine sl_st rfl rfl rfl rfl sz_72 rfl rfl rfl (Nat.le_of_ble_eq_true rfl) ?_)
        | (refine sl_f5 ?_; refine sl_st rfl rfl rfl rfl sz_72 rfl rfl rfl (Nat.le_of_ble_eq_true rfl) ?_)
        | (refine sl_f6 ?_; refine sl_st rfl rfl rfl rfl sz_72 rfl rfl rfl (Nat.le_of_ble_eq_true rfl) ?_)
      refine sl_nil ?_
      refine sw_seq ?_
      refine sw_freeze (t := 5) rfl rfl ?_
      refine sa_start [] mixed ?_
      refine sa_take 0 rfl rfl (by kernel_rfl) (by kernel_rfl) (by kernel_rfl) exacts_nil (pu_mv rfl rfl) ?_
      refine sa_take 1 rfl rfl (by kernel_rfl) (by kernel_rfl) (by kernel_rfl) exacts_nil (pu_nc rfl rfl rfl) ?_
      first
        | refine sa_take 2 rfl rfl (by kernel_rfl) (by kernel_rfl) (by kernel_rfl) exacts_nil (pu_fieldAddr_ptr rfl rfl fo_30_0) ?_
        | refine sa_take 2 rfl rfl (by kernel_rfl) (by kernel_rfl) (by kernel_rfl) exacts_nil (pu_fieldAddr_rp rfl rfl fo_30_0) ?_
        | refine sa_take 2 rfl rfl (by kernel_rfl) (by kernel_rfl) (by kernel_rfl) exacts_nil (pu_fieldAddr_ref rfl rfl fo_30_0) ?_
      first
        | refine sa_take 3 rfl rfl (by kernel_rfl) (by kernel_rfl) (by kernel_rfl) exacts_nil (pu_fieldAddr_ptr rfl rfl fo_72_0) ?_
        | refine sa_take 3 rfl rfl (by kernel_rfl) (by kernel_rfl) (by kernel_rfl) exacts_nil (pu_fieldAddr_rp rfl rfl fo_72_0) ?_
        | refine sa_take 3 rfl rfl (by kernel_rfl) (by kernel_rfl) (by kernel_rfl) exacts_nil (pu_fieldAddr_ref rfl rfl fo_72_0) ?_
      refine sa_take 4 rfl rfl (by kernel_rfl) (by kernel_rfl) (by kernel_rfl) exacts_nil (pu_load_rp1 rfl rfl ag_67 rfl) ?_
      first
        | refine sa_take 5 rfl rfl (by kernel_rfl) (by kernel_rfl) (by kernel_rfl) exacts_nil (pu_len rfl rfl ⟨_, u_67⟩) ?_
        | refine sa_take 5 rfl rfl (by kernel_rfl) (by kernel_rfl) (by kernel_rfl) exacts_nil (pu_len_sl rfl rfl ⟨_, u_67⟩) ?_
      refine sa_take 6 rfl rfl (by kernel_rfl) (by kernel_rfl) (by kernel_rfl) exacts_nil (pu_conv_int rfl rfl is_3 u_37) ?_
      refine sa_set 22 (.val (u64V ss[k].alarms.length)) (len_u64m almV (by omega)) ?_
      refine sa_one 7 (by kernel_rfl) rfl ?_
      refine sl_bs1 rfl rfl (.cons rfl .nil) u_51 sz_37 zs_37 (by decide) rfl rfl rfl rfl ?_
      refine sl_nil ⟨exacts_nil, ?_⟩
      refine sa_one 8 (by kernel_rfl) rfl ?_
      refine sl_callf rfl rfl cal_28 (num_ok p v m [ss[k].alarms.length] σ (by intro n hn; rw [List.mem_singleton.mp hn]; omega) (by simp only [List.length_cons, List.length_nil]; omega)) ?_ ?_ ?_ (fun _ _ h => h.elim)
      · repeat (first | exact Weaks.nil | refine Weaks.cons (Weak.junk _) ?_ | refine Weaks.cons (Weak.refl _) ?_ | refine Weaks.cons (Weak.toV rfl) ?_ | refine Weaks.cons (Weak.ref _) ?_ | refine Weaks.cons (Weak.rp_agg _) ?_)
      · repeat (first | exact Sub.refl _ | exact Sub.none _ | refine Sub.p0 ?_ | refine Sub.p1 ?_ | refine Sub.p2 ?_ | refine Sub.p3 ?_ | refine Sub.p4 ?_ | refine Sub.p5 ?_ | refine Sub.p6 ?_ | refine Sub.drop ?_)
      rintro _ _ ⟨rfl, v2, rfl⟩
      refine sl_nil ⟨exacts_nil, ?_⟩
      have e1 : m ++ [ss[k].alarms.length].flatMap encNum = m ++ encNum ss[k].alarms.length := by simp
      rw [e1]
      have hn1 := encNum_len (n := ss[k].alarms.length) (by omega)
      refine sa_done (by kernel_rfl) ?_
      refine sw_seq ?_
      refine sw_seq ?_
      refine sl_region ?_
      first
        | refine sl_fieldAddr_ptr rfl rfl rfl fo_72_0 ?_
        | refine sl_fieldAddr_rp rfl rfl rfl fo_72_0 ?_
        | refine sl_fieldAddr_ref rfl rfl rfl fo_72_0 ?_
      first
        | refine sl_load_rp1 rfl rfl rfl ag_67 rfl ?_
        | refine sl_load_blk1 rfl rfl rfl ag_67 (by first | exact List.Mem.head _ | exact List.Mem.tail _ (List.Mem.head _) | exact List.Mem.tail _ (List.Mem.tail _ (List.Mem.head _)) | exact List.Mem.tail _ (List.Mem.tail _ (List.Mem.tail _ (List.Mem.head _))) | exact List.Mem.tail _ (List.Mem.tail _ (List.Mem.tail _ (List.Mem.tail _ (List.Mem.head _)))) | exact List.Mem.tail _ (List.Mem.tail _ (List.Mem.tail _ (List.Mem.tail _ (List.Mem.tail _ (List.Mem.head _)))))) rfl ?_
      first
        | refine sl_len rfl rfl rfl ⟨_, u_67⟩ ?_
        | refine sl_len_sl rfl rfl rfl ⟨_, u_67⟩ ?_
      refine sl_set 27 (.val (.int .i64 (ss[k].alarms.length : Int))) (len_eq (List.length_map ..)) ?_
      refine sl_mv rfl rfl rfl ?_
      refine sl_nil ?_
      refine sw_block ?_
      refine sw_loopw (fun nX sX δX σX => ∃ (j : Nat) (v : Value) (m2 : List UInt8), (ss[k].alarms.length - j) = nX ∧ sX = ⟨86, (.cons 0 (.ptr p 0) (.cons 10 (.val (.list (ss.map smyV))) (.cons 11 (.val (.int .i64 (ss.length : Int))) (.cons 12 (.val (.int .i64 (k : Int))) (.cons 5 (.rp (smyCells ss[k])) (.cons 26 (.val (.list (ss[k].alarms.map almV))) (.cons 27 (.val (.int .i64 (ss[k].alarms.length : Int))) (.cons 28 (.val (.int .i64 (j : Int))) .nil))))))))⟩ ∧ δX = [] ∧ σX = .blk p [.own v (m2.map byteV)] :: .spare v 1 :: σ ∧ j ≤ ss[k].alarms.length ∧ m2 = m ++ encNum ss[k].alarms.length ++ (ss[k].alarms.take j).flatMap encAlarm) ?_ ?_
      · refine ⟨_, _, _, ?_, ?_, 0, v2, m ++ encNum ss[k].alarms.length, rfl, rfl, rfl, rfl, Nat.zero_le _, by simp⟩
        · refine ⟨rfl, ?_⟩; repeat (first | exact WkL.nil | refine WkL.cons (Weak.refl _) ?_ | refine WkL.cons (Weak.toV rfl) ?_ | refine WkL.cons (Weak.ref _) ?_ | refine WkL.cons (Weak.rp_agg _) ?_)
        · repeat (first | exact Sub.refl _ | exact Sub.none _ | refine Sub.p0 ?_ | refine Sub.p1 ?_ | refine Sub.p2 ?_ | refine Sub.p3 ?_ | refine Sub.p4 ?_ | refine Sub.p5 ?_ | refine Sub.p6 ?_ | refine Sub.drop ?_)
      · rintro nX sX δX σX ⟨j, v, m2, rfl, rfl, rfl, rfl, hj0, hm2⟩
        refine sw_seq ?_
        refine sl_region ?_
        refine sl_bin rfl rfl rfl rfl rfl ?_
        refine sl_nil ?_
        refine sw_seq ?_
        refine sw_cond rfl (fun hj => ?_) (fun hj => ?_)
        · have hj : j < ss[k].alarms.length := by simpa using hj
          have hao1 := hao ss[k].alarms[j] (List.getElem_mem hj)
          have hm2l : m2.length + 100 ≤ 100000000 := by
            have := flat_len (f := encAlarm) (c := 20) (ns := ss[k].alarms) (fun a ha => encAlarm_len (hao a ha)) j
            rw [hm2]; simp only [List.length_append]; omega
          refine sw_skip ?_
          refine sw_seq ?_
          refine sw_block ?_
          refine sw_seq ?_
          refine sl_region ?_
          refine sl_indexAddr' rfl rfl rfl rfl u_67 sz_86 (by omega) (idx_map hj) rfl ?_
          first
            | refine sl_load_rpn rfl rfl rfl ag_86 sz_86 (Nat.le_of_ble_eq_true rfl) ?_
            | refine sl_load_blkn rfl rfl rfl ag_86 sz_86 (by first | exact List.Mem.head _ | exact List.Mem.tail _ (List.Mem.head _) | exact List.Mem.tail _ (List.Mem.tail _ (List.Mem.head _)) | exact List.Mem.tail _ (List.Mem.tail _ (List.Mem.tail _ (List.Mem.head _))) | exact List.Mem.tail _ (List.Mem.tail _ (List.Mem.tail _ (List.Mem.tail _ (List.Mem.head _)))) | exact List.Mem.tail _ (List.Mem.tail _ (List.Mem.tail _ (List.Mem.tail _ (List.Mem.tail _ (List.Mem.head _)))))) (Nat.le_of_ble_eq_true rfl) ?_
            | refine sl_load_ref rfl rfl rfl ag_86 sz_86 (Nat.le_of_ble_eq_true rfl) ?_
          refine sl_alloc rfl rfl zd_86 (fun b7 => ?_)
          first
            | refine sl_st rfl rfl rfl rfl sz_86 rfl rfl rfl (Nat.le_of_ble_eq_true rfl) ?_
            | (refine sl_f1 ?_; refine sl_st rfl rfl rfl rfl sz_86 rfl rfl rfl (Nat.le_of_ble_eq_true rfl) ?_)
            | (refine sl_f2 ?_; refine sl_st rfl rfl rfl rfl sz_86 rfl rfl rfl (Nat.le_of_ble_eq_true rfl) ?_)
            | (refine sl_f3 ?_; refine sl_st rfl rfl rfl rfl sz_86 rfl rfl rfl (Nat.le_of_ble_eq_true rfl) ?_)
            | (refine sl_f4 ?_; refine sl_st rfl rfl rfl rfl sz_86 rfl rfl rfl (Nat.le_of_ble_eq_true rfl) ?_)
            | (refine sl_f5 ?_; refine sl_st rfl rfl rfl rfl sz_86 rfl rfl rfl (Nat.le_of_ble_eq_true rfl) ?_)
            | (refine sl_f6 ?_; refine sl_st rfl rfl rfl rfl sz_86 rfl rfl rfl (Nat.le_of_ble_eq_true rfl) ?_)
          refine sl_nil ?_
          refine sw_freeze (t := 7) rfl rfl ?_
          refine sa_start [] mixed ?_
          refine sa_take 0 rfl rfl (by kernel_rfl) (by kernel_rfl) (by kernel_rfl) exacts_nil (pu_mv rfl rfl) ?_
          refine sa_take 1 rfl rfl (by kernel_rfl) (by kernel_rfl) (by kernel_rfl) exacts_nil (pu_nc rfl rfl rfl) ?_
          first
            | refine sa_take 2 rfl rfl (by kernel_rfl) (by kernel_rfl) (by kernel_rfl) exacts_nil (pu_fieldAddr_ptr rfl rfl fo_30_0) ?_
            | refine sa_take 2 rfl rfl (by kernel_rfl) (by kernel_rfl) (by kernel_rfl) exacts_nil (pu_fieldAddr_rp rfl rfl fo_30_0) ?_
            | refine sa_take 2 rfl rfl (by kernel_rfl) (by kernel_rfl) (by kernel_rfl) exacts_nil (pu_fieldAddr_ref rfl rfl fo_30_0) ?_
          first
            | refine sa_take 3 rfl rfl (by kernel_rfl) (by kernel_rfl) (by kernel_rfl) exacts_nil (pu_fieldAddr_ptr rfl rfl fo_86_0) ?_
            | refine sa_take 3 rfl rfl (by kernel_rfl) (by kernel_rfl) (by kernel_rfl) exacts_nil (pu_fieldAddr_rp rfl rfl fo_86_0) ?_
            | refine sa_take 3 rfl rfl (by kernel_rfl) (by kernel_rfl) (by kernel_rfl) exacts_nil (pu_fieldAddr_ref rfl rfl fo_86_0) ?_
          refine sa_take 4 rfl rfl (by kernel_rfl) (by kernel_rfl) (by kernel_rfl) exacts_nil (pu_load_rp1 rfl rfl ag_3 rfl) ?_
          first
            | refine sa_take 5 rfl rfl (by kernel_rfl) (by kernel_rfl) (by kernel_rfl) exacts_nil (pu_fieldAddr_ptr rfl rfl fo_86_1) ?_
            | refine sa_take 5 rfl rfl (by kernel_rfl) (by kernel_rfl) (by kernel_rfl) exacts_nil (pu_fieldAddr_rp rfl rfl fo_86_1) ?_
            | refine sa_take 5 rfl rfl (by kernel_rfl) (by kernel_rfl) (by kernel_rfl) exacts_nil (pu_fieldAddr_ref rfl rfl fo_86_1) ?_
          refine sa_take 6 rfl rfl (by kernel_rfl) (by kernel_rfl) (by kernel_rfl) exacts_nil (pu_load_rp1 rfl rfl ag_3 rfl) ?_
          refine sa_one 7 (by kernel_rfl) rfl ?_
          refine sl_bs1 rfl rfl (.cons rfl (.cons rfl .nil)) u_52 sz_2 zs_2 (by decide) rfl rfl rfl rfl ?_
          refine sl_nil ⟨exacts_nil, ?_⟩
          refine sa_one 8 (by kernel_rfl) rfl ?_
          refine sl_callf rfl rfl cal_17 (int_ok p v m2 [ss[k].alarms[j].pos, ss[k].alarms[j].kind] σ (by intro n hn; simp at hn; rcases hn with rfl | rfl; exact hao1.1; exact hao1.2) (by simp only [List.length_cons, List.length_nil]; omega)) ?_ ?_ ?_ (fun _ _ h => h.elim)
          · repeat (first | exact Weaks.nil | refine Weaks.cons (Weak.junk _) ?_ | refine Weaks.cons (Weak.refl _) ?_ | refine Weaks.cons (Weak.toV rfl) ?_ | refine Weaks.cons (Weak.ref _) ?_ | refine Weaks.cons (Weak.rp_agg _) ?_)
          · repeat (first | exact Sub.refl _ | exact Sub.none _ | refine Sub.p0 ?_ | refine Sub.p1 ?_ | refine Sub.p2 ?_ | refine Sub.p3 ?_ | refine Sub.p4 ?_ | refine Sub.p5 ?_ | refine Sub.p6 ?_ | refine Sub.drop ?_)
          rintro _ _ ⟨rfl, v3, rfl⟩
          refine sl_nil ⟨exacts_nil, ?_⟩
          refine sa_done (by kernel_rfl) ?_
          refine sl_region ?_
          first
            | refine sl_inc rfl rfl rfl rfl (by omega) ?_
            | refine sl_add rfl rfl rfl rfl (by constructor <;> omega) ?_
            | refine sl_bin rfl rfl rfl rfl rfl ?_
          refine sl_mv rfl rfl rfl ?_
          refine sl_nil ?_
          have e2 : m2 ++ [ss[k].alarms[j].pos, ss[k].alarms[j].kind].flatMap encInt = m ++ encNum ss[k].alarms.length ++ (ss[k].alarms.take (j + 1)).flatMap encAlarm := by
            rw [flat_snoc hj, hm2]; simp [encAlarm]
          refine ⟨_, by omega, _, _, ?_, ?_, j + 1, v3, _, rfl, rfl, rfl, rfl, by omega, e2⟩
          · refine ⟨rfl, ?_⟩; repeat (first | exact WkL.nil | refine WkL.cons (Weak.refl _) ?_ | refine WkL.cons (Weak.toV rfl) ?_ | refine WkL.cons (Weak.ref _) ?_ | refine WkL.cons (Weak.rp_agg _) ?_)
          · repeat (first | exact Sub.refl _ | exact Sub.none _ | refine Sub.p0 ?_ | refine Sub.p1 ?_ | refine Sub.p2 ?_ | refine Sub.p3 ?_ | refine Sub.p4 ?_ | refine Sub.p5 ?_ | refine Sub.p6 ?_ | refine Sub.drop ?_)
        · have hj : j = ss[k].alarms.length := by have h9 : ¬ j < ss[k].alarms.length := (by simpa using hj); omega
          subst hj
          rw [List.take_length] at hm2
          have ha1 := flat_allc (f := encAlarm) (c := 20) (ns := ss[k].alarms) (fun a ha => encAlarm_len (hao a ha))
          have hm2l : m2.length ≤ m.length + 210 := by rw [hm2]; simp only [List.length_append]; omega
          refine sw_exit ?_
          refine sw_seq ?_
          refine sa_start [] mixed ?_
          refine sa_take 0 rfl rfl (by kernel_rfl) (by kernel_rfl) (by kernel_rfl) exacts_nil (pu_mv rfl rfl) ?_
          refine sa_take 1 rfl rfl (by kernel_rfl) (by kernel_rfl) (by kernel_rfl) exacts_nil (pu_nc rfl rfl rfl) ?_
          first
            | refine sa_take 2 rfl rfl (by kernel_rfl) (by kernel_rfl) (by kernel_rfl) exacts_nil (pu_fieldAddr_ptr rfl rfl fo_30_0) ?_
            | refine sa_take 2 rfl rfl (by kernel_rfl) (by kernel_rfl) (by kernel_rfl) exacts_nil (pu_fieldAddr_rp rfl rfl fo_30_0) ?_
            | refine sa_take 2 rfl rfl (by kernel_rfl) (by kernel_rfl) (by kernel_rfl) exacts_nil (pu_fieldAddr_ref rfl rfl fo_30_0) ?_
          first
            | refine sa_take 3 rfl rfl (by kernel_rfl) (by kernel_rfl) (by kernel_rfl) exacts_nil (pu_fieldAddr_ptr rfl rfl fo_72_1) ?_
            | refine sa_take 3 rfl rfl (by kernel_rfl) (by kernel_rfl) (by kernel_rfl) exacts_nil (pu_fieldAddr_rp rfl rfl fo_72_1) ?_
            | refine sa_take 3 rfl rfl (by kernel_rfl) (by kernel_rfl) (by kernel_rfl) exacts_nil (pu_fieldAddr_ref rfl rfl fo_72_1) ?_
          refine sa_take 4 rfl rfl (by kernel_rfl) (by kernel_rfl) (by kernel_rfl) exacts_nil (pu_load_rp1 rfl rfl ag_4 rfl) ?_
          refine sa_one 5 (by kernel_rfl) rfl ?_
          refine sl_bs1 rfl rfl (.cons rfl .nil) u_54 sz_4 zs_4 (by decide) rfl rfl rfl rfl ?_
          refine sl_nil ⟨exacts_nil, ?_⟩
          refine sa_one 6 (by kernel_rfl) rfl ?_
          refine sl_callf rfl rfl cal_30 (bool_ok p v m2 [ss[k].ends] σ (by simp only [List.length_cons, List.length_nil]; omega)) ?_ ?_ ?_ (fun _ _ h => h.elim)
          · repeat (first | exact Weaks.nil | refine Weaks.cons (Weak.junk _) ?_ | refine Weaks.cons (Weak.refl _) ?_ | refine Weaks.cons (Weak.toV rfl) ?_ | refine Weaks.cons (Weak.ref _) ?_ | refine Weaks.cons (Weak.rp_agg _) ?_)
          · repeat (first | exact Sub.refl _ | exact Sub.none _ | refine Sub.p0 ?_ | refine Sub.p1 ?_ | refine Sub.p2 ?_ | refine Sub.p3 ?_ | refine Sub.p4 ?_ | refine Sub.p5 ?_ | refine Sub.p6 ?_ | refine Sub.drop ?_)
          rintro _ _ ⟨rfl, v4, rfl⟩
          refine sl_nil ⟨exacts_nil, ?_⟩
          have e3 : m2 ++ [ss[k].ends].flatMap encBool = m2 ++ encBool ss[k].ends := by simp
          rw [e3]
          have hb3 := encBool_len1 ss[k].ends
          refine sa_done (by kernel_rfl) ?_
          refine sw_seq ?_
          refine sa_start [] mixed ?_
          refine sa_take 0 rfl rfl (by kernel_rfl) (by kernel_rfl) (by kernel_rfl) exacts_nil (pu_mv rfl rfl) ?_
          refine sa_take 1 rfl rfl (by kernel_rfl) (by kernel_rfl) (by kernel_rfl) exacts_nil (pu_nc rfl rfl rfl) ?_
          first
            | refine sa_take 2 rfl rfl (by kernel_rfl) (by kernel_rfl) (by kernel_rfl) exacts_nil (pu_fieldAddr_ptr rfl rfl fo_30_0) ?_
            | refine sa_take 2 rfl rfl (by kernel_rfl) (by kernel_rfl) (by kernel_rfl) exacts_nil (pu_fieldAddr_rp rfl rfl fo_30_0) ?_
            | refine sa_take 2 rfl rfl (by kernel_rfl) (by kernel_rfl) (by kernel_rfl) exacts_nil (pu_fieldAddr_ref rfl rfl fo_30_0) ?_
          first
            | refine sa_take 3 rfl rfl (by kernel_rfl) (by kernel_rfl) (by kernel_rfl) exacts_nil (pu_fieldAddr_ptr rfl rfl fo_72_2) ?_
            | refine sa_take 3 rfl rfl (by kernel_rfl) (by kernel_rfl) (by kernel_rfl) exacts_nil (pu_fieldAddr_rp rfl rfl fo_72_2) ?_
            | refine sa_take 3 rfl rfl (by kernel_rfl) (by kernel_rfl) (by kernel_rfl) exacts_nil (pu_fieldAddr_ref rfl rfl fo_72_2) ?_
          refine sa_take 4 rfl rfl (by kernel_rfl) (by kernel_rfl) (by kernel_rfl) exacts_nil (pu_load_rpn rfl rfl ag_69 sz_69 (Nat.le_of_ble_eq_true rfl)) ?_
          refine sa_one 5 (by kernel_rfl) rfl ?_
          refine sl_callf rfl rfl cal_81 (wival_ok p v4 (m2 ++ encBool ss[k].ends) ss[k].ret σ hro (by rw [List.length_append]; omega)) ?_ ?_ ?_ (fun _ _ h => h.elim)
          · repeat (first | exact Weaks.nil | refine Weaks.cons (Weak.junk _) ?_ | refine Weaks.cons (Weak.refl _) ?_ | refine Weaks.cons (Weak.toV rfl) ?_ | refine Weaks.cons (Weak.ref _) ?_ | refine Weaks.cons (Weak.rp_agg _) ?_)
          · repeat (first | exact Sub.refl _ | exact Sub.none _ | refine Sub.p0 ?_ | refine Sub.p1 ?_ | refine Sub.p2 ?_ | refine Sub.p3 ?_ | refine Sub.p4 ?_ | refine Sub.p5 ?_ | refine Sub.p6 ?_ | refine Sub.drop ?_)
          rintro _ _ ⟨rfl, v5, rfl⟩
          refine sl_nil ⟨exacts_nil, ?_⟩
          have hb4 := encIval_len hro
          refine sa_done (by kernel_rfl) ?_
          refine sw_seq ?_
          refine sa_start [] mixed ?_
          refine sa_take 0 rfl rfl (by kernel_rfl) (by kernel_rfl) (by kernel_rfl) exacts_nil (pu_mv rfl rfl) ?_
          refine sa_take 1 rfl rfl (by kernel_rfl) (by kernel_rfl) (by kernel_rfl) exacts_nil (pu_nc rfl rfl rfl) ?_
          first
            | refine sa_take 2 rfl rfl (by kernel_rfl) (by kernel_rfl) (by kernel_rfl) exacts_nil (pu_fieldAddr_ptr rfl rfl fo_30_0) ?_
            | refine sa_take 2 rfl rfl (by kernel_rfl) (by kernel_rfl) (by kernel_rfl) exacts_nil (pu_fieldAddr_rp rfl rfl fo_30_0) ?_
            | refine sa_take 2 rfl rfl (by kernel_rfl) (by kernel_rfl) (by kernel_rfl) exacts_nil (pu_fieldAddr_ref rfl rfl fo_30_0) ?_
          first
            | refine sa_take 3 rfl rfl (by kernel_rfl) (by kernel_rfl) (by kernel_rfl) exacts_nil (pu_fieldAddr_ptr rfl rfl fo_72_3) ?_
            | refine sa_take 3 rfl rfl (by kernel_rfl) (by kernel_rfl) (by kernel_rfl) exacts_nil (pu_fieldAddr_rp rfl rfl fo_72_3) ?_
            | refine sa_take 3 rfl rfl (by kernel_rfl) (by kernel_rfl) (by kernel_rfl) exacts_nil (pu_fieldAddr_ref rfl rfl fo_72_3) ?_
          refine sa_take 4 rfl rfl (by kernel_rfl) (by kernel_rfl) (by kernel_rfl) exacts_nil (pu_load_rp1 rfl rfl ag_70 rfl) ?_
          first
            | refine sa_take 5 rfl rfl (by kernel_rfl) (by kernel_rfl) (by kernel_rfl) exacts_nil (pu_len rfl rfl ⟨_, u_70⟩) ?_
            | refine sa_take 5 rfl rfl (by kernel_rfl) (by kernel_rfl) (by kernel_rfl) exacts_nil (pu_len_sl rfl rfl ⟨_, u_70⟩) ?_
          refine sa_take 6 rfl rfl (by kernel_rfl) (by kernel_rfl) (by kernel_rfl) exacts_nil (pu_conv_int rfl rfl is_3 u_37) ?_
          refine sa_set 61 (.val (u64V ss[k].mod.length)) (len_u64m nmdV (by omega)) ?_
          refine sa_one 7 (by kernel_rfl) rfl ?_
          refine sl_bs1 rfl rfl (.cons rfl .nil) u_51 sz_37 zs_37 (by decide) rfl rfl rfl rfl ?_
          refine sl_nil ⟨exacts_nil, ?_⟩
          refine sa_one 8 (by kernel_rfl) rfl ?_
          refine sl_callf rfl rfl cal_28 (num_ok p v5 (m2 ++ encBool ss[k].ends ++ encIval ss[k].ret) [ss[k].mod.length] σ (by intro n hn; rw [List.mem_singleton.mp hn]; omega) (by simp only [List.length_append, List.length_cons, List.length_nil]; omega)) ?_ ?_ ?_ (fun _ _ h => h.elim)
          · repeat (first | exact Weaks.nil | refine Weaks.cons (Weak.junk _) ?_ | refine Weaks.cons (Weak.refl _) ?_ | refine Weaks.cons (Weak.toV rfl) ?_ | refine Weaks.cons (Weak.ref _) ?_ | refine Weaks.cons (Weak.rp_agg _) ?_)
          · repeat (first | exact Sub.refl _ | exact Sub.none _ | refine Sub.p0 ?_ | refine Sub.p1 ?_ | refine Sub.p2 ?_ | refine Sub.p3 ?_ | refine Sub.p4 ?_ | refine Sub.p5 ?_ | refine Sub.p6 ?_ | refine Sub.drop ?_)
          rintro _ _ ⟨rfl, v6, rfl⟩
          refine sl_nil ⟨exacts_nil, ?_⟩
          obtain ⟨m3, hm3⟩ : ∃ m3, m3 = m2 ++ encBool ss[k].ends ++ encIval ss[k].ret ++ encNum ss[k].mod.length := ⟨_, rfl⟩
          have e4 : m2 ++ encBool ss[k].ends ++ encIval ss[k].ret ++ [ss[k].mod.length].flatMap encNum = m3 := by rw [hm3]; simp
          rw [e4]
          have hn5 := encNum_len (n := ss[k].mod.length) (by omega)
          have hm3l : m3.length ≤ m.length + 252 := by rw [hm3]; simp only [List.length_append]; omega
          refine sa_done (by kernel_rfl) ?_
          refine sw_seq ?_
          refine sl_region ?_
          first
            | refine sl_fieldAddr_ptr rfl rfl rfl fo_72_3 ?_
            | refine sl_fieldAddr_rp rfl rfl rfl fo_72_3 ?_
            | refine sl_fieldAddr_ref rfl rfl rfl fo_72_3 ?_
          first
            | refine sl_load_rp1 rfl rfl rfl ag_70 rfl ?_
            | refine sl_load_blk1 rfl rfl rfl ag_70 (by first | exact List.Mem.head _ | exact List.Mem.tail _ (List.Mem.head _) | exact List.Mem.tail _ (List.Mem.tail _ (List.Mem.head _)) | exact List.Mem.tail _ (List.Mem.tail _ (List.Mem.tail _ (List.Mem.head _))) | exact List.Mem.tail _ (List.Mem.tail _ (List.Mem.tail _ (List.Mem.tail _ (List.Mem.head _)))) | exact List.Mem.tail _ (List.Mem.tail _ (List.Mem.tail _ (List.Mem.tail _ (List.Mem.tail _ (List.Mem.head _)))))) rfl ?_
          first
            | refine sl_len rfl rfl rfl ⟨_, u_70⟩ ?_
            | refine sl_len_sl rfl rfl rfl ⟨_, u_70⟩ ?_
          refine sl_set 66 (.val (.int .i64 (ss[k].mod.length : Int))) (len_eq (List.length_map ..)) ?_
          refine sl_mv rfl rfl rfl ?_
          refine sl_nil ?_
          refine sw_block ?_
          refine sw_loopw (fun nX sX δX σX => ∃ (j : Nat) (v : Value) (m4 : List UInt8), (ss[k].mod.length - j) = nX ∧ sX = ⟨86, (.cons 0 (.ptr p 0) (.cons 10 (.val (.list (ss.map smyV))) (.cons 11 (.val (.int .i64 (ss.length : Int))) (.cons 12 (.val (.int .i64 (k : Int))) (.cons 65 (.val (.list (ss[k].mod.map nmdV))) (.cons 66 (.val (.int .i64 (ss[k].mod.length : Int))) (.cons 67 (.val (.int .i64 (j : Int))) .nil)))))))⟩ ∧ δX = [] ∧ σX = .blk p [.own v (m4.map byteV)] :: .spare v 1 :: σ ∧ j ≤ ss[k].mod.length ∧ m4 = m3 ++ (ss[k].mod.take j).flatMap encNamed) ?_ ?_
          · refine ⟨_, _, _, ?_, ?_, 0, v6, m3, rfl, rfl, rfl, rfl, Nat.zero_le _, by simp⟩
            · refine ⟨rfl, ?_⟩; repeat (first | exact WkL.nil | refine WkL.cons (Weak.refl _) ?_ | refine WkL.cons (Weak.toV rfl) ?_ | refine WkL.cons (Weak.ref _) ?_ | refine WkL.cons (Weak.rp_agg _) ?_)
            · repeat (first | exact Sub.refl _ | exact Sub.none _ | refine Sub.p0 ?_ | refine Sub.p1 ?_ | refine Sub.p2 ?_ | refine Sub.p3 ?_ | refine Sub.p4 ?_ | refine Sub.p5 ?_ | refine Sub.p6 ?_ | refine Sub.drop ?_)
          · rintro nX sX δX σX ⟨j, v, m4, rfl, rfl, rfl, rfl, hj0, hm4⟩
            refine sw_seq ?_
            refine sl_region ?_
            refine sl_bin rfl rfl rfl rfl rfl ?_
            refine sl_nil ?_
            refine sw_seq ?_
            refine sw_cond rfl (fun hj => ?_) (fun hj => ?_)
            · have hj : j < ss[k].mod.length := by simpa using hj
              have hmo1 := hmo ss[k].mod[j] (List.getElem_mem hj)
              have hnm1 := hnm ss[k].mod[j] (List.getElem_mem hj)
              have hm4l : m4.length + 100 ≤ 100000000 := by
                have := flat_len (f := encNamed) (c := 81) (ns := ss[k].mod) (fun a ha => encNamed_len (hmo a ha) (hnm a ha)) j
                rw [hm4]; simp only [List.length_append]; omega
              refine sw_skip ?_
              refine sw_seq ?_
              refine sw_block ?_
              refine sw_seq ?_
              refine sl_region ?_
              refine sl_indexAddr' rfl rfl rfl rfl u_70 sz_127 (by omega) (idx_map hj) rfl ?_
              first
                | refine sl_load_rpn rfl rfl rfl ag_127 sz_127 (Nat.le_of_ble_eq_true rfl) ?_
                | refine sl_load_blkn rfl rfl rfl ag_127 sz_127 (by first | exact List.Mem.head _ | exact List.Mem.tail _ (List.Mem.head _) | exact List.Mem.tail _ (List.Mem.tail _ (List.Mem.head _)) | exact List.Mem.tail _ (List.Mem.tail _ (List.Mem.tail _ (List.Mem.head _))) | exact List.Mem.tail _ (List.Mem.tail _ (List.Mem.tail _ (List.Mem.tail _ (List.Mem.head _)))) | exact List.Mem.tail _ (List.Mem.tail _ (List.Mem.tail _ (List.Mem.tail _ (List.Mem.tail _ (List.Mem.head _)))))) (Nat.le_of_ble_eq_true rfl) ?_
                | refine sl_load_ref rfl rfl rfl ag_127 sz_127 (Nat.le_of_ble_eq_true rfl) ?_
              refine sl_alloc rfl rfl zd_127 (fun b9 => ?_)
              first
                | refine sl_st rfl rfl rfl rfl sz_127 rfl rfl rfl (Nat.le_of_ble_eq_true rfl) ?_
                | (refine sl_f1 ?_; refine sl_st rfl rfl rfl rfl sz_127 rfl rfl rfl (Nat.le_of_ble_eq_true rfl) ?_)
                | (refine sl_f2 ?_; refine sl_st rfl rfl rfl rfl sz_127 rfl rfl rfl (Nat.le_of_ble_eq_true rfl) ?_)
                | (refine sl_f3 ?_; refine sl_st rfl rfl rfl rfl sz_127 rfl rfl rfl (Nat.le_of_ble_eq_true rfl) ?_)
                | (refine sl_f4 ?_; refine sl_st rfl rfl rfl rfl sz_127 rfl rfl rfl (Nat.le_of_ble_eq_true rfl) ?_)
                | (refine sl_f5 ?_; refine sl_st rfl rfl rfl rfl sz_127 rfl rfl rfl (Nat.le_of_ble_eq_true rfl) ?_)
                | (refine sl_f6 ?_; refine sl_st rfl rfl rfl rfl sz_127 rfl rfl rfl (Nat.le_of_ble_eq_true rfl) ?_)
              refine sl_nil ?_
              refine sw_seq ?_
              refine sw_freeze (t := 9) rfl rfl ?_
              refine sa_start [] mixed ?_
              refine sa_take 0 rfl rfl (by kernel_rfl) (by kernel_rfl) (by kernel_rfl) exacts_nil (pu_mv rfl rfl) ?_
              refine sa_take 1 rfl rfl (by kernel_rfl) (by kernel_rfl) (by kernel_rfl) exacts_nil (pu_nc rfl rfl rfl) ?_
              first
                | refine sa_take 2 rfl rfl (by kernel_rfl) (by kernel_rfl) (by kernel_rfl) exacts_nil (pu_fieldAddr_ptr rfl rfl fo_30_0) ?_
                | refine sa_take 2 rfl rfl (by kernel_rfl) (by kernel_rfl) (by kernel_rfl) exacts_nil (pu_fieldAddr_rp rfl rfl fo_30_0) ?_
                | refine sa_take 2 rfl rfl (by kernel_rfl) (by kernel_rfl) (by kernel_rfl) exacts_nil (pu_fieldAddr_ref rfl rfl fo_30_0) ?_
              first
                | refine sa_take 3 rfl rfl (by kernel_rfl) (by kernel_rfl) (by kernel_rfl) exacts_nil (pu_fieldAddr_ptr rfl rfl fo_127_0) ?_
                | refine sa_take 3 rfl rfl (by kernel_rfl) (by kernel_rfl) (by kernel_rfl) exacts_nil (pu_fieldAddr_rp rfl rfl fo_127_0) ?_
                | refine sa_take 3 rfl rfl (by kernel_rfl) (by kernel_rfl) (by kernel_rfl) exacts_nil (pu_fieldAddr_ref rfl rfl fo_127_0) ?_
              refine sa_take 4 rfl rfl (by kernel_rfl) (by kernel_rfl) (by kernel_rfl) exacts_nil (pu_load_rp1 rfl rfl ag_9 rfl) ?_
              refine sa_one 5 (by kernel_rfl) rfl ?_
              refine sl_bs1 rfl rfl (.cons rfl .nil) u_53 sz_9 zs_9 (by decide) rfl rfl rfl rfl ?_
              refine sl_nil ⟨exacts_nil, ?_⟩
              refine sa_one 6 (by kernel_rfl) rfl ?_
              refine sl_callf rfl rfl cal_29 (text_ok p v m4 [ss[k].mod[j].name] 50 σ (by intro n hn; rw [List.mem_singleton.mp hn]; exact hnm1) (by simp only [List.length_cons, List.length_nil]; omega)) ?_ ?_ ?_ (fun _ _ h => h.elim)
              · repeat (first | exact Weaks.nil | refine Weaks.cons (Weak.junk _) ?_ | refine Weaks.cons (Weak.refl _) ?_ | refine Weaks.cons (Weak.toV rfl) ?_ | refine Weaks.cons (Weak.ref _) ?_ | refine Weaks.cons (Weak.rp_agg _) ?_)
              · repeat (first | exact Sub.refl _ | exact Sub.none _ | refine Sub.p0 ?_ | refine Sub.p1 ?_ | refine Sub.p2 ?_ | refine Sub.p3 ?_ | refine Sub.p4 ?_ | refine Sub.p5 ?_ | refine Sub.p6 ?_ | refine Sub.drop ?_)
              rintro _ _ ⟨rfl, v7, rfl⟩
              refine sl_nil ⟨exacts_nil, ?_⟩
              have e5 : m4 ++ [ss[k].mod[j].name].flatMap encText = m4 ++ encText ss[k].mod[j].name := by simp
              rw [e5]
              have ht5 := encText_lenc hnm1 (by decide)
              refine sa_done (by kernel_rfl) ?_
              refine sa_start [] mixed ?_
              refine sa_take 0 rfl rfl (by kernel_rfl) (by kernel_rfl) (by kernel_rfl) exacts_nil (pu_mv rfl rfl) ?_
              refine sa_take 1 rfl rfl (by kernel_rfl) (by kernel_rfl) (by kernel_rfl) exacts_nil (pu_nc rfl rfl rfl) ?_
              first
                | refine sa_take 2 rfl rfl (by kernel_rfl) (by kernel_rfl) (by kernel_rfl) exacts_nil (pu_fieldAddr_ptr rfl rfl fo_30_0) ?_
                | refine sa_take 2 rfl rfl (by kernel_rfl) (by kernel_rfl) (by kernel_rfl) exacts_nil (pu_fieldAddr_rp rfl rfl fo_30_0) ?_
                | refine sa_take 2 rfl rfl (by kernel_rfl) (by kernel_rfl) (by kernel_rfl) exacts_nil (pu_fieldAddr_ref rfl rfl fo_30_0) ?_
              first
                | refine sa_take 3 rfl rfl (by kernel_rfl) (by kernel_rfl) (by kernel_rfl) exacts_nil (pu_fieldAddr_ptr rfl rfl fo_127_1) ?_
                | refine sa_take 3 rfl rfl (by kernel_rfl) (by kernel_rfl) (by kernel_rfl) exacts_nil (pu_fieldAddr_rp rfl rfl fo_127_1) ?_
                | refine sa_take 3 rfl rfl (by kernel_rfl) (by kernel_rfl) (by kernel_rfl) exacts_nil (pu_fieldAddr_ref rfl rfl fo_127_1) ?_
              refine sa_take 4 rfl rfl (by kernel_rfl) (by kernel_rfl) (by kernel_rfl) exacts_nil (pu_load_rpn rfl rfl ag_69 sz_69 (Nat.le_of_ble_eq_true rfl)) ?_
              refine sa_one 5 (by kernel_rfl) rfl ?_
              refine sl_callf rfl rfl cal_81 (wival_ok p v7 (m4 ++ encText ss[k].mod[j].name) ss[k].mod[j].v σ hmo1 (by rw [List.length_append]; omega)) ?_ ?_ ?_ (fun _ _ h => h.elim)
              · repeat (first | exact Weaks.nil | refine Weaks.cons (Weak.junk _) ?_ | refine Weaks.cons (Weak.refl _) ?_ | refine Weaks.cons (Weak.toV rfl) ?_ | refine Weaks.cons (Weak.ref _) ?_ | refine Weaks.cons (Weak.rp_agg _) ?_)
              · repeat (first | exact Sub.refl _ | exact Sub.none _ | refine Sub.p0 ?_ | refine Sub.p1 ?_ | refine Sub.p2 ?_ | refine Sub.p3 ?_ | refine Sub.p4 ?_ | refine Sub.p5 ?_ | refine Sub.p6 ?_ | refine Sub.drop ?_)
              rintro _ _ ⟨rfl, v8, rfl⟩
              refine sl_nil ⟨exacts_nil, ?_⟩
              refine sa_done (by kernel_rfl) ?_
              refine sl_region ?_
              first
                | refine sl_inc rfl rfl rfl rfl (by omega) ?_
                | refine sl_add rfl rfl rfl rfl (by constructor <;> omega) ?_
                | refine sl_bin rfl rfl rfl rfl rfl ?_
              refine sl_mv rfl rfl rfl ?_
              refine sl_nil ?_
              have e6 : m4 ++ encText ss[k].mod[j].name ++ encIval ss[k].mod[j].v = m3 ++ (ss[k].mod.take (j + 1)).flatMap encNamed := by
                rw [flat_snoc hj, hm4]; simp [encNamed]
              refine ⟨_, by omega, _, _, ?_, ?_, j + 1, v8, _, rfl, rfl, rfl, rfl, by omega, e6⟩
              · refine ⟨rfl, ?_⟩; repeat (first | exact WkL.nil | refine WkL.cons (Weak.refl _) ?_ | refine WkL.cons (Weak.toV rfl) ?_ | refine WkL.cons (Weak.ref _) ?_ | refine WkL.cons (Weak.rp_agg _) ?_)
              · repeat (first | exact Sub.refl _ | exact Sub.none _ | refine Sub.p0 ?_ | refine Sub.p1 ?_ | refine Sub.p2 ?_ | refine Sub.p3 ?_ | refine Sub.p4 ?_ | refine Sub.p5 ?_ | refine Sub.p6 ?_ | refine Sub.drop ?_)
            · have hj : j = ss[k].mod.length := by have h9 : ¬ j < ss[k].mod.length := (by simpa using hj); omega
              subst hj
              rw [List.take_length] at hm4
              refine sw_exit ?_
              refine sl_region ?_
              first
                | refine sl_inc rfl rfl rfl rfl (by omega) ?_
                | refine sl_add rfl rfl rfl rfl (by constructor <;> omega) ?_
                | refine sl_bin rfl rfl rfl rfl rfl ?_
              refine sl_mv rfl rfl rfl ?_
              refine sl_nil ?_
              have e7 : m4 = l ++ (ss.take (k + 1)).flatMap encSumm := by
                rw [flat_snoc hk, hm4, hm3, hm2, hm0]; simp [encSumm, encAlarms]
              refine ⟨_, by omega, _, _, ?_, ?_, k + 1, v, _, rfl, rfl, rfl, rfl, by omega, e7⟩
              · refine ⟨rfl, ?_⟩; repeat (first | exact WkL.nil | refine WkL.cons (Weak.refl _) ?_ | refine WkL.cons (Weak.toV rfl) ?_ | refine WkL.cons (Weak.ref _) ?_ | refine WkL.cons (Weak.rp_agg _) ?_)
              · repeat (first | exact Sub.refl _ | exact Sub.none _ | refine Sub.p0 ?_ | refine Sub.p1 ?_ | refine Sub.p2 ?_ | refine Sub.p3 ?_ | refine Sub.p4 ?_ | refine Sub.p5 ?_ | refine Sub.p6 ?_ | refine Sub.drop ?_)
    · have hk : k = ss.length := by have h9 : ¬ k < ss.length := (by simpa using hk); omega
      subst hk
      rw [List.take_length] at hm0
      subst hm0
      refine sw_exit ?_
      refine ⟨rfl, _, _, res_none rfl, ?_, ⟨rfl, v, rfl⟩⟩
      repeat (first | exact Sub.refl _ | exact Sub.none _ | refine Sub.p0 ?_ | refine Sub.p1 ?_ | refine Sub.p2 ?_ | refine Sub.p3 ?_ | refine Sub.p4 ?_ | refine Sub.p5 ?_ | refine Sub.p6 ?_ | refine Sub.drop ?_)

end Go.Proofs.Ytioechdfghglhaa
