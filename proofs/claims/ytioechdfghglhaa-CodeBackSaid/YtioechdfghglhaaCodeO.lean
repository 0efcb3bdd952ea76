/- Walks: printed by a program of this session out of its script CodeO. -/
import Derived.Test.YtioechdfghglhaaSlT
import Derived.Test.YtioechdfghglhaaP9
import Derived.Test.YtioechdfghglhaaCodeN
namespace Go.Proofs.Ytioechdfghglhaa
set_option linter.unusedVariables false
set_option linter.unusedSimpArgs false
set_option maxRecDepth 4000
set_option maxHeartbeats 4000000
open Go Go.RowKit SL


/-- The document's reader: a summary. -/
theorem ysumm_ok (q : Nat) (st : Option (List UInt8)) (c : Chunk) (σ : List Chunk) (h : Rdr q st c) :
    FSpec Try.prog 46 [.ptr q 0] (c :: σ) (fun d σ' => ∃ s st' c', d = .val (smyV s) ∧ Out decSumm st s st' ∧ (st' = none → s = noSumm) ∧ Rdr q st' c' ∧ σ' = c' :: σ) := by
  refine spec_of_sw Try.func46 rfl ?_
  refine sw_seq ?_
  refine sl_region ?_
  refine sl_alloc rfl rfl zd_72 (fun b2 => ?_)
  refine sl_nil ?_
  refine sw_seq ?_
  refine sl_region ?_
  refine sl_alloc rfl rfl zd_72 (fun b3 => ?_)
  refine sl_nil ?_
  refine sw_seq ?_
  refine sl_region ?_
  refine sl_mv rfl rfl rfl ?_
  refine sl_callf rfl rfl cal_86 (yalarms_ok q st c (.blk b2 [.fix [], .val (.bool false), .val (.bool false), .val (.int .i64 0), .val (.int .i64 0), .fix []] :: .blk b3 [.fix [], .val (.bool false), .val (.bool false), .val (.int .i64 0), .val (.int .i64 0), .fix []] :: σ) h) ?_ ?_ ?_ (fun _ _ h => h.elim)
  · repeat (first | exact Weaks.nil | refine Weaks.cons (Weak.junk _) ?_ | refine Weaks.cons (Weak.refl _) ?_ | refine Weaks.cons (Weak.toV rfl) ?_ | refine Weaks.cons (Weak.ref _) ?_ | refine Weaks.cons (Weak.rp_agg _) ?_)
  · repeat (first | exact Sub.refl _ | exact Sub.none _ | refine Sub.p0 ?_ | refine Sub.p1 ?_ | refine Sub.p2 ?_ | refine Sub.p3 ?_ | refine Sub.p4 ?_ | refine Sub.p5 ?_ | refine Sub.p6 ?_ | refine Sub.drop ?_)
  rintro _ _ ⟨al, st1, c1, rfl, o1, h1, rfl⟩
  have o2 := out_rdOf (dec := decB) (z := false) st1
  first
    | refine sl_fieldAddr_ptr rfl rfl rfl fo_72_0 ?_
    | refine sl_fieldAddr_rp rfl rfl rfl fo_72_0 ?_
    | refine sl_fieldAddr_ref rfl rfl rfl fo_72_0 ?_
  first
    | refine sl_st rfl rfl rfl rfl sz_67 rfl rfl rfl (Nat.le_of_ble_eq_true rfl) ?_
    | (refine sl_f1 ?_; refine sl_st rfl rfl rfl rfl sz_67 rfl rfl rfl (Nat.le_of_ble_eq_true rfl) ?_)
    | (refine sl_f2 ?_; refine sl_st rfl rfl rfl rfl sz_67 rfl rfl rfl (Nat.le_of_ble_eq_true rfl) ?_)
    | (refine sl_f3 ?_; refine sl_st rfl rfl rfl rfl sz_67 rfl rfl rfl (Nat.le_of_ble_eq_true rfl) ?_)
    | (refine sl_f4 ?_; refine sl_st rfl rfl rfl rfl sz_67 rfl rfl rfl (Nat.le_of_ble_eq_true rfl) ?_)
    | (refine sl_f5 ?_; refine sl_st rfl rfl rfl rfl sz_67 rfl rfl rfl (Nat.le_of_ble_eq_true rfl) ?_)
    | (refine sl_f6 ?_; refine sl_st rfl rfl rfl rfl sz_67 rfl rfl rfl (Nat.le_of_ble_eq_true rfl) ?_)
  refine sl_nil ?_
  refine sw_seq ?_
  refine sl_region ?_
  refine sl_mv rfl rfl rfl ?_
  refine sl_callf rfl rfl cal_43 (ybool_ok q st1 c1 (.blk b2 [.fix [], .val (.bool false), .val (.bool false), .val (.int .i64 0), .val (.int .i64 0), .fix []] :: .blk b3 [.val (.list (al.map almV)), .val (.bool false), .val (.bool false), .val (.int .i64 0), .val (.int .i64 0), .fix []] :: σ) h1) ?_ ?_ ?_ (fun _ _ h => h.elim)
  · repeat (first | exact Weaks.nil | refine Weaks.cons (Weak.junk _) ?_ | refine Weaks.cons (Weak.refl _) ?_ | refine Weaks.cons (Weak.toV rfl) ?_ | refine Weaks.cons (Weak.ref _) ?_ | refine Weaks.cons (Weak.rp_agg _) ?_)
  · repeat (first | exact Sub.refl _ | exact Sub.none _ | refine Sub.p0 ?_ | refine Sub.p1 ?_ | refine Sub.p2 ?_ | refine Sub.p3 ?_ | refine Sub.p4 ?_ | refine Sub.p5 ?_ | refine Sub.p6 ?_ | refine Sub.drop ?_)
  rintro _ _ ⟨rfl, c2, h2, rfl⟩
  obtain ⟨e, he⟩ : ∃ b, b = (rdOf decB false st1).1 := ⟨_, rfl⟩
  obtain ⟨st2, hst2⟩ : ∃ b, b = (rdOf decB false st1).2 := ⟨_, rfl⟩
  rw [← he, ← hst2] at o2
  rw [← hst2] at h2
  rw [← he]
  first
    | refine sl_fieldAddr_ptr rfl rfl rfl fo_72_1 ?_
    | refine sl_fieldAddr_rp rfl rfl rfl fo_72_1 ?_
    | refine sl_fieldAddr_ref rfl rfl rfl fo_72_1 ?_
  first
    | refine sl_st rfl rfl rfl rfl sz_4 rfl rfl rfl (Nat.le_of_ble_eq_true rfl) ?_
    | (refine sl_f1 ?_; refine sl_st rfl rfl rfl rfl sz_4 rfl rfl rfl (Nat.le_of_ble_eq_true rfl) ?_)
    | (refine sl_f2 ?_; refine sl_st rfl rfl rfl rfl sz_4 rfl rfl rfl (Nat.le_of_ble_eq_true rfl) ?_)
    | (refine sl_f3 ?_; refine sl_st rfl rfl rfl rfl sz_4 rfl rfl rfl (Nat.le_of_ble_eq_true rfl) ?_)
    | (refine sl_f4 ?_; refine sl_st rfl rfl rfl rfl sz_4 rfl rfl rfl (Nat.le_of_ble_eq_true rfl) ?_)
    | (refine sl_f5 ?_; refine sl_st rfl rfl rfl rfl sz_4 rfl rfl rfl (Nat.le_of_ble_eq_true rfl) ?_)
    | (refine sl_f6 ?_; refine sl_st rfl rfl rfl rfl sz_4 rfl rfl rfl (Nat.le_of_ble_eq_true rfl) ?_)
  refine sl_nil ?_
  refine sw_seq ?_
  refine sl_region ?_
  refine sl_mv rfl rfl rfl ?_
  refine sl_callf rfl rfl cal_87 (yival_ok q st2 c2 (.blk b2 [.fix [], .val (.bool false), .val (.bool false), .val (.int .i64 0), .val (.int .i64 0), .fix []] :: .blk b3 [.val (.list (al.map almV)), .val (boolV e), .val (.bool false), .val (.int .i64 0), .val (.int .i64 0), .fix []] :: σ) h2) ?_ ?_ ?_ (fun _ _ h => h.elim)
  · repeat (first | exact Weaks.nil | refine Weaks.cons (Weak.junk _) ?_ | refine Weaks.cons (Weak.refl _) ?_ | refine Weaks.cons (Weak.toV rfl) ?_ | refine Weaks.cons (Weak.ref _) ?_ | refine Weaks.cons (Weak.rp_agg _) ?_)
  · repeat (first | exact Sub.refl _ | exact Sub.none _ | refine Sub.p0 ?_ | refine Sub.p1 ?_ | refine Sub.p2 ?_ | refine Sub.p3 ?_ | refine Sub.p4 ?_ | refine Sub.p5 ?_ | refine Sub.p6 ?_ | refine Sub.drop ?_)
  rintro _ _ ⟨i, st3, c3, rfl, o3, h3, rfl⟩
  have o4 := out_rdOf (dec := decN 0) (z := 0) st3
  have hlt := rdOf_lt (st := st3)
  first
    | refine sl_fieldAddr_ptr rfl rfl rfl fo_72_2 ?_
    | refine sl_fieldAddr_rp rfl rfl rfl fo_72_2 ?_
    | refine sl_fieldAddr_ref rfl rfl rfl fo_72_2 ?_
  first
    | refine sl_st rfl rfl rfl rfl sz_69 rfl rfl rfl (Nat.le_of_ble_eq_true rfl) ?_
    | (refine sl_f1 ?_; refine sl_st rfl rfl rfl rfl sz_69 rfl rfl rfl (Nat.le_of_ble_eq_true rfl) ?_)
    | (refine sl_f2 ?_; refine sl_st rfl rfl rfl rfl sz_69 rfl rfl rfl (Nat.le_of_ble_eq_true rfl) ?_)
    | (refine sl_f3 ?_; refine sl_st rfl rfl rfl rfl sz_69 rfl rfl rfl (Nat.le_of_ble_eq_true rfl) ?_)
    | (refine sl_f4 ?_; refine sl_st rfl rfl rfl rfl sz_69 rfl rfl rfl (Nat.le_of_ble_eq_true rfl) ?_)
    | (refine sl_f5 ?_; refine sl_st rfl rfl rfl rfl sz_69 rfl rfl rfl (Nat.le_of_ble_eq_true rfl) ?_)
    | (refine sl_f6 ?_; refine sl_st rfl rfl rfl rfl sz_69 rfl rfl rfl (Nat.le_of_ble_eq_true rfl) ?_)
  refine sl_nil ?_
  refine sw_seq ?_
  refine sl_region ?_
  refine sl_mv rfl rfl rfl ?_
  refine sl_callf rfl rfl cal_40 (ynum_ok q st3 c3 (.blk b2 [.fix [], .val (.bool false), .val (.bool false), .val (.int .i64 0), .val (.int .i64 0), .fix []] :: .blk b3 ([.val (.list (al.map almV)), .val (boolV e), .val (.bool i.some), .val (.int .i64 i.lo), .val (.int .i64 i.hi), .fix []]) :: σ) h3) ?_ ?_ ?_ (fun _ _ h => h.elim)
  · repeat (first | exact Weaks.nil | refine Weaks.cons (Weak.junk _) ?_ | refine Weaks.cons (Weak.refl _) ?_ | refine Weaks.cons (Weak.toV rfl) ?_ | refine Weaks.cons (Weak.ref _) ?_ | refine Weaks.cons (Weak.rp_agg _) ?_)
  · repeat (first | exact Sub.refl _ | exact Sub.none _ | refine Sub.p0 ?_ | refine Sub.p1 ?_ | refine Sub.p2 ?_ | refine Sub.p3 ?_ | refine Sub.p4 ?_ | refine Sub.p5 ?_ | refine Sub.p6 ?_ | refine Sub.drop ?_)
  rintro _ _ ⟨rfl, c4, h4, rfl⟩
  obtain ⟨n, hn⟩ : ∃ b, b = (rdOf (decN 0) 0 st3).1 := ⟨_, rfl⟩
  obtain ⟨st4, hst4⟩ : ∃ b, b = (rdOf (decN 0) 0 st3).2 := ⟨_, rfl⟩
  rw [← hn, ← hst4] at o4
  rw [← hn] at hlt
  rw [← hst4] at h4
  rw [← hn]
  rcases st4 with _ | r
  · obtain ⟨r, rfl⟩ := h4
    refine sl_as rfl rfl rfl ?_
    refine sl_nil ?_
    refine sw_seq ?_
    refine sw_seq ?_
    refine sl_region ?_
    refine sl_mv rfl rfl rfl ?_
    refine sl_mv rfl rfl rfl ?_
    refine sl_nc rfl rfl rfl rfl ?_
    first
      | refine sl_fieldAddr_ptr rfl rfl rfl fo_80_0 ?_
      | refine sl_fieldAddr_rp rfl rfl rfl fo_80_0 ?_
      | refine sl_fieldAddr_ref rfl rfl rfl fo_80_0 ?_
    first
      | refine sl_load_rp1 rfl rfl rfl ag_26 rfl ?_
      | refine sl_load_blk1 rfl rfl rfl ag_26 (by first | exact List.Mem.head _ | exact List.Mem.tail _ (List.Mem.head _) | exact List.Mem.tail _ (List.Mem.tail _ (List.Mem.head _)) | exact List.Mem.tail _ (List.Mem.tail _ (List.Mem.tail _ (List.Mem.head _))) | exact List.Mem.tail _ (List.Mem.tail _ (List.Mem.tail _ (List.Mem.tail _ (List.Mem.head _)))) | exact List.Mem.tail _ (List.Mem.tail _ (List.Mem.tail _ (List.Mem.tail _ (List.Mem.tail _ (List.Mem.head _)))))) rfl ?_
    first
      | refine sl_len rfl rfl rfl ⟨_, u_26⟩ ?_
      | refine sl_len_sl rfl rfl rfl ⟨_, u_26⟩ ?_
    refine sl_conv_int rfl rfl rfl is_3 u_37 ?_
    refine sl_bin rfl rfl rfl rfl rfl ?_
    refine sl_nil ?_
    refine sw_cond rfl (fun hg => ?_) (fun hg => ?_)
    · refine sl_region ?_
      refine sl_mv rfl rfl rfl ?_
      refine sl_nc rfl rfl rfl rfl ?_
      first
        | refine sl_fieldAddr_ptr rfl rfl rfl fo_80_1 ?_
        | refine sl_fieldAddr_rp rfl rfl rfl fo_80_1 ?_
        | refine sl_fieldAddr_ref rfl rfl rfl fo_80_1 ?_
      first
        | refine sl_st rfl rfl rfl rfl sz_4 rfl rfl rfl (Nat.le_of_ble_eq_true rfl) ?_
        | (refine sl_f1 ?_; refine sl_st rfl rfl rfl rfl sz_4 rfl rfl rfl (Nat.le_of_ble_eq_true rfl) ?_)
        | (refine sl_f2 ?_; refine sl_st rfl rfl rfl rfl sz_4 rfl rfl rfl (Nat.le_of_ble_eq_true rfl) ?_)
        | (refine sl_f3 ?_; refine sl_st rfl rfl rfl rfl sz_4 rfl rfl rfl (Nat.le_of_ble_eq_true rfl) ?_)
        | (refine sl_f4 ?_; refine sl_st rfl rfl rfl rfl sz_4 rfl rfl rfl (Nat.le_of_ble_eq_true rfl) ?_)
        | (refine sl_f5 ?_; refine sl_st rfl rfl rfl rfl sz_4 rfl rfl rfl (Nat.le_of_ble_eq_true rfl) ?_)
        | (refine sl_f6 ?_; refine sl_st rfl rfl rfl rfl sz_4 rfl rfl rfl (Nat.le_of_ble_eq_true rfl) ?_)
      refine sl_nil ?_
      refine sw_seq ?_
      refine sw_seq ?_
      refine sl_region ?_
      refine sl_as rfl rfl rfl ?_
      refine sl_nil ?_
      refine sw_block ?_
      refine sw_loopw (fun nX sX δX σX => ∃ (j : Nat), (1) = nX ∧ sX = ⟨58, (.cons 0 (.ptr q 0) (.cons 2 (.ptr b2 0) (.cons 3 (.ptr b3 0) (.cons 4 (.val (u64V n)) (.cons 5 (.val (.int .u64 (j : Int))) .nil)))))⟩ ∧ δX = [] ∧ σX = rd q r true :: .blk b2 [.fix [], .val (.bool false), .val (.bool false), .val (.int .i64 0), .val (.int .i64 0), .fix []] :: .blk b3 ([.val (.list (al.map almV)), .val (boolV e), .val (.bool i.some), .val (.int .i64 i.lo), .val (.int .i64 i.hi), .fix []]) :: σ) ?_ ?_
      · refine ⟨_, _, _, ?_, ?_, 0, rfl, rfl, rfl, rfl⟩
        · refine ⟨rfl, ?_⟩; repeat (first | exact WkL.nil | refine WkL.cons (Weak.refl _) ?_ | refine WkL.cons (Weak.toV rfl) ?_ | refine WkL.cons (Weak.ref _) ?_ | refine WkL.cons (Weak.rp_agg _) ?_)
        · repeat (first | exact Sub.refl _ | exact Sub.none _ | refine Sub.p0 ?_ | refine Sub.p1 ?_ | refine Sub.p2 ?_ | refine Sub.p3 ?_ | refine Sub.p4 ?_ | refine Sub.p5 ?_ | refine Sub.p6 ?_ | refine Sub.drop ?_)
      · rintro nX sX δX σX ⟨j, rfl, rfl, rfl, rfl⟩
        refine sw_seq ?_
        refine sw_seq ?_
        refine sl_region ?_
        refine sl_mv rfl rfl rfl ?_
        refine sl_mv rfl rfl rfl ?_
        refine sl_bin rfl rfl rfl rfl rfl ?_
        refine sl_mv rfl rfl rfl ?_
        refine sl_case_at 32 rfl (fun hj => ?_) (fun hj => ?_)
        · refine sl_guard_y rfl rfl rfl hj ?_
          refine sl_mv rfl rfl rfl ?_
          refine sl_guard_y rfl rfl rfl hj ?_
          refine sl_nc rfl rfl rfl rfl ?_
          refine sl_guard_y rfl rfl rfl hj ?_
          first
            | refine sl_fieldAddr_ptr rfl rfl rfl fo_80_1 ?_
            | refine sl_fieldAddr_rp rfl rfl rfl fo_80_1 ?_
            | refine sl_fieldAddr_ref rfl rfl rfl fo_80_1 ?_
          refine sl_guard_y rfl rfl rfl hj ?_
          first
            | refine sl_load_rp1 rfl rfl rfl ag_4 rfl ?_
            | refine sl_load_blk1 rfl rfl rfl ag_4 (by first | exact List.Mem.head _ | exact List.Mem.tail _ (List.Mem.head _) | exact List.Mem.tail _ (List.Mem.tail _ (List.Mem.head _)) | exact List.Mem.tail _ (List.Mem.tail _ (List.Mem.tail _ (List.Mem.head _))) | exact List.Mem.tail _ (List.Mem.tail _ (List.Mem.tail _ (List.Mem.tail _ (List.Mem.head _)))) | exact List.Mem.tail _ (List.Mem.tail _ (List.Mem.tail _ (List.Mem.tail _ (List.Mem.tail _ (List.Mem.head _)))))) rfl ?_
          refine sl_guard_y rfl rfl rfl hj ?_
          refine sl_not rfl rfl rfl ?_
          refine sl_pk_t rfl rfl rfl hj rfl ?_
          refine sl_nil ?_
          refine sw_false rfl (rfl) ?_
          refine sw_exit ?_
          refine sw_seq ?_
          refine sw_seq ?_
          refine sl_region ?_
          refine sl_mv rfl rfl rfl ?_
          refine sl_nc rfl rfl rfl rfl ?_
          first
            | refine sl_fieldAddr_ptr rfl rfl rfl fo_80_1 ?_
            | refine sl_fieldAddr_rp rfl rfl rfl fo_80_1 ?_
            | refine sl_fieldAddr_ref rfl rfl rfl fo_80_1 ?_
          first
            | refine sl_load_rp1 rfl rfl rfl ag_4 rfl ?_
            | refine sl_load_blk1 rfl rfl rfl ag_4 (by first | exact List.Mem.head _ | exact List.Mem.tail _ (List.Mem.head _) | exact List.Mem.tail _ (List.Mem.tail _ (List.Mem.head _)) | exact List.Mem.tail _ (List.Mem.tail _ (List.Mem.tail _ (List.Mem.head _))) | exact List.Mem.tail _ (List.Mem.tail _ (List.Mem.tail _ (List.Mem.tail _ (List.Mem.head _)))) | exact List.Mem.tail _ (List.Mem.tail _ (List.Mem.tail _ (List.Mem.tail _ (List.Mem.tail _ (List.Mem.head _)))))) rfl ?_
          refine sl_nil ?_
          refine sw_true rfl (rfl) ?_
          refine sw_seq ?_
          refine sl_region ?_
          refine sl_bd rfl rfl .nil bi_72 zd_72 rfl ?_
          first
            | refine sl_st rfl rfl rfl rfl sz_72 rfl rfl rfl (Nat.le_of_ble_eq_true rfl) ?_
            | (refine sl_f1 ?_; refine sl_st rfl rfl rfl rfl sz_72 rfl rfl rfl (Nat.le_of_ble_eq_true rfl) ?_)
            | (refine sl_f2 ?_; refine sl_st rfl rfl rfl rfl sz_72 rfl rfl rfl (Nat.le_of_ble_eq_true rfl) ?_)
            | (refine sl_f3 ?_; refine sl_st rfl rfl rfl rfl sz_72 rfl rfl rfl (Nat.le_of_ble_eq_true rfl) ?_)
            | (refine sl_f4 ?_; refine sl_st rfl rfl rfl rfl sz_72 rfl rfl rfl (Nat.le_of_ble_eq_true rfl) ?_)
            | (refine sl_f5 ?_; refine sl_st rfl rfl rfl rfl sz_72 rfl rfl rfl (Nat.le_of_ble_eq_true rfl) ?_)
            | (refine sl_f6 ?_; refine sl_st rfl rfl rfl rfl sz_72 rfl rfl rfl (Nat.le_of_ble_eq_true rfl) ?_)
          refine sl_nil ?_
          refine sw_ret ⟨rfl, _, _, ResD.weak (res_celln rfl rfl ag_72 sz_72 (by first | exact List.Mem.head _ | exact List.Mem.tail _ (List.Mem.head _) | exact List.Mem.tail _ (List.Mem.tail _ (List.Mem.head _)) | exact List.Mem.tail _ (List.Mem.tail _ (List.Mem.tail _ (List.Mem.head _))) | exact List.Mem.tail _ (List.Mem.tail _ (List.Mem.tail _ (List.Mem.tail _ (List.Mem.head _)))) | exact List.Mem.tail _ (List.Mem.tail _ (List.Mem.tail _ (List.Mem.tail _ (List.Mem.tail _ (List.Mem.head _)))))) (Nat.le_of_ble_eq_true rfl)) ((Weak.toV rfl) ), ?_, ⟨noSumm, none, _, rfl, out_none (out_summ o1 o2 o3 (ml_none o4)), fun _ => rfl, ⟨r, rfl⟩, rfl⟩⟩
          repeat (first | exact Sub.refl _ | exact Sub.none _ | refine Sub.p0 ?_ | refine Sub.p1 ?_ | refine Sub.p2 ?_ | refine Sub.p3 ?_ | refine Sub.p4 ?_ | refine Sub.p5 ?_ | refine Sub.p6 ?_ | refine Sub.drop ?_)
        · refine sl_guard_n rfl rfl rfl hj ?_
          refine sl_guard_n rfl rfl rfl hj ?_
          refine sl_guard_n rfl rfl rfl hj ?_
          refine sl_guard_n rfl rfl rfl hj ?_
          refine sl_guard_n rfl rfl rfl hj ?_
          refine sl_pk_f rfl rfl rfl hj rfl ?_
          refine sl_nil ?_
          refine sw_false rfl (rfl) ?_
          refine sw_exit ?_
          refine sw_seq ?_
          refine sw_seq ?_
          refine sl_region ?_
          refine sl_mv rfl rfl rfl ?_
          refine sl_nc rfl rfl rfl rfl ?_
          first
            | refine sl_fieldAddr_ptr rfl rfl rfl fo_80_1 ?_
            | refine sl_fieldAddr_rp rfl rfl rfl fo_80_1 ?_
            | refine sl_fieldAddr_ref rfl rfl rfl fo_80_1 ?_
          first
            | refine sl_load_rp1 rfl rfl rfl ag_4 rfl ?_
            | refine sl_load_blk1 rfl rfl rfl ag_4 (by first | exact List.Mem.head _ | exact List.Mem.tail _ (List.Mem.head _) | exact List.Mem.tail _ (List.Mem.tail _ (List.Mem.head _)) | exact List.Mem.tail _ (List.Mem.tail _ (List.Mem.tail _ (List.Mem.head _))) | exact List.Mem.tail _ (List.Mem.tail _ (List.Mem.tail _ (List.Mem.tail _ (List.Mem.head _)))) | exact List.Mem.tail _ (List.Mem.tail _ (List.Mem.tail _ (List.Mem.tail _ (List.Mem.tail _ (List.Mem.head _)))))) rfl ?_
          refine sl_nil ?_
          refine sw_true rfl (rfl) ?_
          refine sw_seq ?_
          refine sl_region ?_
          refine sl_bd rfl rfl .nil bi_72 zd_72 rfl ?_
          first
            | refine sl_st rfl rfl rfl rfl sz_72 rfl rfl rfl (Nat.le_of_ble_eq_true rfl) ?_
            | (refine sl_f1 ?_; refine sl_st rfl rfl rfl rfl sz_72 rfl rfl rfl (Nat.le_of_ble_eq_true rfl) ?_)
            | (refine sl_f2 ?_; refine sl_st rfl rfl rfl rfl sz_72 rfl rfl rfl (Nat.le_of_ble_eq_true rfl) ?_)
            | (refine sl_f3 ?_; refine sl_st rfl rfl rfl rfl sz_72 rfl rfl rfl (Nat.le_of_ble_eq_true rfl) ?_)
            | (refine sl_f4 ?_; refine sl_st rfl rfl rfl rfl sz_72 rfl rfl rfl (Nat.le_of_ble_eq_true rfl) ?_)
            | (refine sl_f5 ?_; refine sl_st rfl rfl rfl rfl sz_72 rfl rfl rfl (Nat.le_of_ble_eq_true rfl) ?_)
            | (refine sl_f6 ?_; refine sl_st rfl rfl rfl rfl sz_72 rfl rfl rfl (Nat.le_of_ble_eq_true rfl) ?_)
          refine sl_nil ?_
          refine sw_ret ⟨rfl, _, _, ResD.weak (res_celln rfl rfl ag_72 sz_72 (by first | exact List.Mem.head _ | exact List.Mem.tail _ (List.Mem.head _) | exact List.Mem.tail _ (List.Mem.tail _ (List.Mem.head _)) | exact List.Mem.tail _ (List.Mem.tail _ (List.Mem.tail _ (List.Mem.head _))) | exact List.Mem.tail _ (List.Mem.tail _ (List.Mem.tail _ (List.Mem.tail _ (List.Mem.head _)))) | exact List.Mem.tail _ (List.Mem.tail _ (List.Mem.tail _ (List.Mem.tail _ (List.Mem.tail _ (List.Mem.head _)))))) (Nat.le_of_ble_eq_true rfl)) ((Weak.toV rfl) ), ?_, ⟨noSumm, none, _, rfl, out_none (out_summ o1 o2 o3 (ml_none o4)), fun _ => rfl, ⟨r, rfl⟩, rfl⟩⟩
          repeat (first | exact Sub.refl _ | exact Sub.none _ | refine Sub.p0 ?_ | refine Sub.p1 ?_ | refine Sub.p2 ?_ | refine Sub.p3 ?_ | refine Sub.p4 ?_ | refine Sub.p5 ?_ | refine Sub.p6 ?_ | refine Sub.drop ?_)
    · refine sw_skip ?_
      refine sw_seq ?_
      refine sw_seq ?_
      refine sl_region ?_
      refine sl_as rfl rfl rfl ?_
      refine sl_nil ?_
      refine sw_block ?_
      refine sw_loopw (fun nX sX δX σX => ∃ (j : Nat), (1) = nX ∧ sX = ⟨58, (.cons 0 (.ptr q 0) (.cons 2 (.ptr b2 0) (.cons 3 (.ptr b3 0) (.cons 4 (.val (u64V n)) (.cons 5 (.val (.int .u64 (j : Int))) .nil)))))⟩ ∧ δX = [] ∧ σX = rd q r true :: .blk b2 [.fix [], .val (.bool false), .val (.bool false), .val (.int .i64 0), .val (.int .i64 0), .fix []] :: .blk b3 ([.val (.list (al.map almV)), .val (boolV e), .val (.bool i.some), .val (.int .i64 i.lo), .val (.int .i64 i.hi), .fix []]) :: σ) ?_ ?_
      · refine ⟨_, _, _, ?_, ?_, 0, rfl, rfl, rfl, rfl⟩
        · refine ⟨rfl, ?_⟩; repeat (first | exact WkL.nil | refine WkL.cons (Weak.refl _) ?_ | refine WkL.cons (Weak.toV rfl) ?_ | refine WkL.cons (Weak.ref _) ?_ | refine WkL.cons (Weak.rp_agg _) ?_)
        · repeat (first | exact Sub.refl _ | exact Sub.none _ | refine Sub.p0 ?_ | refine Sub.p1 ?_ | refine Sub.p2 ?_ | refine Sub.p3 ?_ | refine Sub.p4 ?_ | refine Sub.p5 ?_ | refine Sub.p6 ?_ | refine Sub.drop ?_)
      · rintro nX sX δX σX ⟨j, rfl, rfl, rfl, rfl⟩
        refine sw_seq ?_
        refine sw_seq ?_
        refine sl_region ?_
        refine sl_mv rfl rfl rfl ?_
        refine sl_mv rfl rfl rfl ?_
        refine sl_bin rfl rfl rfl rfl rfl ?_
        refine sl_mv rfl rfl rfl ?_
        refine sl_case_at 32 rfl (fun hj => ?_) (fun hj => ?_)
        · refine sl_guard_y rfl rfl rfl hj ?_
          refine sl_mv rfl rfl rfl ?_
          refine sl_guard_y rfl rfl rfl hj ?_
          refine sl_nc rfl rfl rfl rfl ?_
          refine sl_guard_y rfl rfl rfl hj ?_
          first
            | refine sl_fieldAddr_ptr rfl rfl rfl fo_80_1 ?_
            | refine sl_fieldAddr_rp rfl rfl rfl fo_80_1 ?_
            | refine sl_fieldAddr_ref rfl rfl rfl fo_80_1 ?_
          refine sl_guard_y rfl rfl rfl hj ?_
          first
            | refine sl_load_rp1 rfl rfl rfl ag_4 rfl ?_
            | refine sl_load_blk1 rfl rfl rfl ag_4 (by first | exact List.Mem.head _ | exact List.Mem.tail _ (List.Mem.head _) | exact List.Mem.tail _ (List.Mem.tail _ (List.Mem.head _)) | exact List.Mem.tail _ (List.Mem.tail _ (List.Mem.tail _ (List.Mem.head _))) | exact List.Mem.tail _ (List.Mem.tail _ (List.Mem.tail _ (List.Mem.tail _ (List.Mem.head _)))) | exact List.Mem.tail _ (List.Mem.tail _ (List.Mem.tail _ (List.Mem.tail _ (List.Mem.tail _ (List.Mem.head _)))))) rfl ?_
          refine sl_guard_y rfl rfl rfl hj ?_
          refine sl_not rfl rfl rfl ?_
          refine sl_pk_t rfl rfl rfl hj rfl ?_
          refine sl_nil ?_
          refine sw_false rfl (rfl) ?_
          refine sw_exit ?_
          refine sw_seq ?_
          refine sw_seq ?_
          refine sl_region ?_
          refine sl_mv rfl rfl rfl ?_
          refine sl_nc rfl rfl rfl rfl ?_
          first
            | refine sl_fieldAddr_ptr rfl rfl rfl fo_80_1 ?_
            | refine sl_fieldAddr_rp rfl rfl rfl fo_80_1 ?_
            | refine sl_fieldAddr_ref rfl rfl rfl fo_80_1 ?_
          first
            | refine sl_load_rp1 rfl rfl rfl ag_4 rfl ?_
            | refine sl_load_blk1 rfl rfl rfl ag_4 (by first | exact List.Mem.head _ | exact List.Mem.tail _ (List.Mem.head _) | exact List.Mem.tail _ (List.Mem.tail _ (List.Mem.head _)) | exact List.Mem.tail _ (List.Mem.tail _ (List.Mem.tail _ (List.Mem.head _))) | exact List.Mem.tail _ (List.Mem.tail _ (List.Mem.tail _ (List.Mem.tail _ (List.Mem.head _)))) | exact List.Mem.tail _ (List.Mem.tail _ (List.Mem.tail _ (List.Mem.tail _ (List.Mem.tail _ (List.Mem.head _)))))) rfl ?_
          refine sl_nil ?_
          refine sw_true rfl (rfl) ?_
          refine sw_seq ?_
          refine sl_region ?_
          refine sl_bd rfl rfl .nil bi_72 zd_72 rfl ?_
          first
            | refine sl_st rfl rfl rfl rfl sz_72 rfl rfl rfl (Nat.le_of_ble_eq_true rfl) ?_
            | (refine sl_f1 ?_; refine sl_st rfl rfl rfl rfl sz_72 rfl rfl rfl (Nat.le_of_ble_eq_true rfl) ?_)
            | (refine sl_f2 ?_; refine sl_st rfl rfl rfl rfl sz_72 rfl rfl rfl (Nat.le_of_ble_eq_true rfl) ?_)
            | (refine sl_f3 ?_; refine sl_st rfl rfl rfl rfl sz_72 rfl rfl rfl (Nat.le_of_ble_eq_true rfl) ?_)
            | (refine sl_f4 ?_; refine sl_st rfl rfl rfl rfl sz_72 rfl rfl rfl (Nat.le_of_ble_eq_true rfl) ?_)
            | (refine sl_f5 ?_; refine sl_st rfl rfl rfl rfl sz_72 rfl rfl rfl (Nat.le_of_ble_eq_true rfl) ?_)
            | (refine sl_f6 ?_; refine sl_st rfl rfl rfl rfl sz_72 rfl rfl rfl (Nat.le_of_ble_eq_true rfl) ?_)
          refine sl_nil ?_
          refine sw_ret ⟨rfl, _, _, ResD.weak (res_celln rfl rfl ag_72 sz_72 (by first | exact List.Mem.head _ | exact List.Mem.tail _ (List.Mem.head _) | exact List.Mem.tail _ (List.Mem.tail _ (List.Mem.head _)) | exact List.Mem.tail _ (List.Mem.tail _ (List.Mem.tail _ (List.Mem.head _))) | exact List.Mem.tail _ (List.Mem.tail _ (List.Mem.tail _ (List.Mem.tail _ (List.Mem.head _)))) | exact List.Mem.tail _ (List.Mem.tail _ (List.Mem.tail _ (List.Mem.tail _ (List.Mem.tail _ (List.Mem.head _)))))) (Nat.le_of_ble_eq_true rfl)) ((Weak.toV rfl) ), ?_, ⟨noSumm, none, _, rfl, out_none (out_summ o1 o2 o3 (ml_none o4)), fun _ => rfl, ⟨r, rfl⟩, rfl⟩⟩
          repeat (first | exact Sub.refl _ | exact Sub.none _ | refine Sub.p0 ?_ | refine Sub.p1 ?_ | refine Sub.p2 ?_ | refine Sub.p3 ?_ | refine Sub.p4 ?_ | refine Sub.p5 ?_ | refine Sub.p6 ?_ | refine Sub.drop ?_)
        · refine sl_guard_n rfl rfl rfl hj ?_
          refine sl_guard_n rfl rfl rfl hj ?_
          refine sl_guard_n rfl rfl rfl hj ?_
          refine sl_guard_n rfl rfl rfl hj ?_
          refine sl_guard_n rfl rfl rfl hj ?_
          refine sl_pk_f rfl rfl rfl hj rfl ?_
          refine sl_nil ?_
          refine sw_false rfl (rfl) ?_
          refine sw_exit ?_
          refine sw_seq ?_
          refine sw_seq ?_
          refine sl_region ?_
          refine sl_mv rfl rfl rfl ?_
          refine sl_nc rfl rfl rfl rfl ?_
          first
            | refine sl_fieldAddr_ptr rfl rfl rfl fo_80_1 ?_
            | refine sl_fieldAddr_rp rfl rfl rfl fo_80_1 ?_
            | refine sl_fieldAddr_ref rfl rfl rfl fo_80_1 ?_
          first
            | refine sl_load_rp1 rfl rfl rfl ag_4 rfl ?_
            | refine sl_load_blk1 rfl rfl rfl ag_4 (by first | exact List.Mem.head _ | exact List.Mem.tail _ (List.Mem.head _) | exact List.Mem.tail _ (List.Mem.tail _ (List.Mem.head _)) | exact List.Mem.tail _ (List.Mem.tail _ (List.Mem.tail _ (List.Mem.head _))) | exact List.Mem.tail _ (List.Mem.tail _ (List.Mem.tail _ (List.Mem.tail _ (List.Mem.head _)))) | exact List.Mem.tail _ (List.Mem.tail _ (List.Mem.tail _ (List.Mem.tail _ (List.Mem.tail _ (List.Mem.head _)))))) rfl ?_
          refine sl_nil ?_
          refine sw_true rfl (rfl) ?_
          refine sw_seq ?_
          refine sl_region ?_
          refine sl_bd rfl rfl .nil bi_72 zd_72 rfl ?_
          first
            | refine sl_st rfl rfl rfl rfl sz_72 rfl rfl rfl (Nat.le_of_ble_eq_true rfl) ?_
            | (refine sl_f1 ?_; refine sl_st rfl rfl rfl rfl sz_72 rfl rfl rfl (Nat.le_of_ble_eq_true rfl) ?_)
            | (refine sl_f2 ?_; refine sl_st rfl rfl rfl rfl sz_72 rfl rfl rfl (Nat.le_of_ble_eq_true rfl) ?_)
            | (refine sl_f3 ?_; refine sl_st rfl rfl rfl rfl sz_72 rfl rfl rfl (Nat.le_of_ble_eq_true rfl) ?_)
            | (refine sl_f4 ?_; refine sl_st rfl rfl rfl rfl sz_72 rfl rfl rfl (Nat.le_of_ble_eq_true rfl) ?_)
            | (refine sl_f5 ?_; refine sl_st rfl rfl rfl rfl sz_72 rfl rfl rfl (Nat.le_of_ble_eq_true rfl) ?_)
            | (refine sl_f6 ?_; refine sl_st rfl rfl rfl rfl sz_72 rfl rfl rfl (Nat.le_of_ble_eq_true rfl) ?_)
          refine sl_nil ?_
          refine sw_ret ⟨rfl, _, _, ResD.weak (res_celln rfl rfl ag_72 sz_72 (by first | exact List.Mem.head _ | exact List.Mem.tail _ (List.Mem.head _) | exact List.Mem.tail _ (List.Mem.tail _ (List.Mem.head _)) | exact List.Mem.tail _ (List.Mem.tail _ (List.Mem.tail _ (List.Mem.head _))) | exact List.Mem.tail _ (List.Mem.tail _ (List.Mem.tail _ (List.Mem.tail _ (List.Mem.head _)))) | exact List.Mem.tail _ (List.Mem.tail _ (List.Mem.tail _ (List.Mem.tail _ (List.Mem.tail _ (List.Mem.head _)))))) (Nat.le_of_ble_eq_true rfl)) ((Weak.toV rfl) ), ?_, ⟨noSumm, none, _, rfl, out_none (out_summ o1 o2 o3 (ml_none o4)), fun _ => rfl, ⟨r, rfl⟩, rfl⟩⟩
          repeat (first | exact Sub.refl _ | exact Sub.none _ | refine Sub.p0 ?_ | refine Sub.p1 ?_ | refine Sub.p2 ?_ | refine Sub.p3 ?_ | refine Sub.p4 ?_ | refine Sub.p5 ?_ | refine Sub.p6 ?_ | refine Sub.drop ?_)
  · obtain ⟨rfl, hr⟩ := h4
    refine sl_as rfl rfl rfl ?_
    refine sl_nil ?_
    refine sw_seq ?_
    refine sw_seq ?_
    refine sl_region ?_
    refine sl_mv rfl rfl rfl ?_
    refine sl_mv rfl rfl rfl ?_
    refine sl_nc rfl rfl rfl rfl ?_
    first
      | refine sl_fieldAddr_ptr rfl rfl rfl fo_80_0 ?_
      | refine sl_fieldAddr_rp rfl rfl rfl fo_80_0 ?_
      | refine sl_fieldAddr_ref rfl rfl rfl fo_80_0 ?_
    first
      | refine sl_load_rp1 rfl rfl rfl ag_26 rfl ?_
      | refine sl_load_blk1 rfl rfl rfl ag_26 (by first | exact List.Mem.head _ | exact List.Mem.tail _ (List.Mem.head _) | exact List.Mem.tail _ (List.Mem.tail _ (List.Mem.head _)) | exact List.Mem.tail _ (List.Mem.tail _ (List.Mem.tail _ (List.Mem.head _))) | exact List.Mem.tail _ (List.Mem.tail _ (List.Mem.tail _ (List.Mem.tail _ (List.Mem.head _)))) | exact List.Mem.tail _ (List.Mem.tail _ (List.Mem.tail _ (List.Mem.tail _ (List.Mem.tail _ (List.Mem.head _)))))) rfl ?_
    first
      | refine sl_len rfl rfl rfl ⟨_, u_26⟩ ?_
      | refine sl_len_sl rfl rfl rfl ⟨_, u_26⟩ ?_
    refine sl_conv_int rfl rfl rfl is_3 u_37 ?_
    refine sl_set 24 (.val (.int .u64 (r.length : Int))) (len_u64 hr) ?_
    refine sl_bin rfl rfl rfl rfl rfl ?_
    refine sl_nil ?_
    refine sw_cond rfl (fun hg => ?_) (fun hg => ?_)
    · have hg : ¬ n ≤ r.length := by have := of_decide_eq_true hg; omega
      refine sl_region ?_
      refine sl_mv rfl rfl rfl ?_
      refine sl_nc rfl rfl rfl rfl ?_
      first
        | refine sl_fieldAddr_ptr rfl rfl rfl fo_80_1 ?_
        | refine sl_fieldAddr_rp rfl rfl rfl fo_80_1 ?_
        | refine sl_fieldAddr_ref rfl rfl rfl fo_80_1 ?_
      first
        | refine sl_st rfl rfl rfl rfl sz_4 rfl rfl rfl (Nat.le_of_ble_eq_true rfl) ?_
        | (refine sl_f1 ?_; refine sl_st rfl rfl rfl rfl sz_4 rfl rfl rfl (Nat.le_of_ble_eq_true rfl) ?_)
        | (refine sl_f2 ?_; refine sl_st rfl rfl rfl rfl sz_4 rfl rfl rfl (Nat.le_of_ble_eq_true rfl) ?_)
        | (refine sl_f3 ?_; refine sl_st rfl rfl rfl rfl sz_4 rfl rfl rfl (Nat.le_of_ble_eq_true rfl) ?_)
        | (refine sl_f4 ?_; refine sl_st rfl rfl rfl rfl sz_4 rfl rfl rfl (Nat.le_of_ble_eq_true rfl) ?_)
        | (refine sl_f5 ?_; refine sl_st rfl rfl rfl rfl sz_4 rfl rfl rfl (Nat.le_of_ble_eq_true rfl) ?_)
        | (refine sl_f6 ?_; refine sl_st rfl rfl rfl rfl sz_4 rfl rfl rfl (Nat.le_of_ble_eq_true rfl) ?_)
      refine sl_nil ?_
      refine sw_seq ?_
      refine sw_seq ?_
      refine sl_region ?_
      refine sl_as rfl rfl rfl ?_
      refine sl_nil ?_
      refine sw_block ?_
      refine sw_loopw (fun nX sX δX σX => ∃ (j : Nat), (1) = nX ∧ sX = ⟨58, (.cons 0 (.ptr q 0) (.cons 2 (.ptr b2 0) (.cons 3 (.ptr b3 0) (.cons 4 (.val (u64V n)) (.cons 5 (.val (.int .u64 (j : Int))) .nil)))))⟩ ∧ δX = [] ∧ σX = rd q r true :: .blk b2 [.fix [], .val (.bool false), .val (.bool false), .val (.int .i64 0), .val (.int .i64 0), .fix []] :: .blk b3 ([.val (.list (al.map almV)), .val (boolV e), .val (.bool i.some), .val (.int .i64 i.lo), .val (.int .i64 i.hi), .fix []]) :: σ) ?_ ?_
      · refine ⟨_, _, _, ?_, ?_, 0, rfl, rfl, rfl, rfl⟩
        · refine ⟨rfl, ?_⟩; repeat (first | exact WkL.nil | refine WkL.cons (Weak.refl _) ?_ | refine WkL.cons (Weak.toV rfl) ?_ | refine WkL.cons (Weak.ref _) ?_ | refine WkL.cons (Weak.rp_agg _) ?_)
        · repeat (first | exact Sub.refl _ | exact Sub.none _ | refine Sub.p0 ?_ | refine Sub.p1 ?_ | refine Sub.p2 ?_ | refine Sub.p3 ?_ | refine Sub.p4 ?_ | refine Sub.p5 ?_ | refine Sub.p6 ?_ | refine Sub.drop ?_)
      · rintro nX sX δX σX ⟨j, rfl, rfl, rfl, rfl⟩
        refine sw_seq ?_
        refine sw_seq ?_
        refine sl_region ?_
        refine sl_mv rfl rfl rfl ?_
        refine sl_mv rfl rfl rfl ?_
        refine sl_bin rfl rfl rfl rfl rfl ?_
        refine sl_mv rfl rfl rfl ?_
        refine sl_case_at 32 rfl (fun hj => ?_) (fun hj => ?_)
        · refine sl_guard_y rfl rfl rfl hj ?_
          refine sl_mv rfl rfl rfl ?_
          refine sl_guard_y rfl rfl rfl hj ?_
          refine sl_nc rfl rfl rfl rfl ?_
          refine sl_guard_y rfl rfl rfl hj ?_
          first
            | refine sl_fieldAddr_ptr rfl rfl rfl fo_80_1 ?_
            | refine sl_fieldAddr_rp rfl rfl rfl fo_80_1 ?_
            | refine sl_fieldAddr_ref rfl rfl rfl fo_80_1 ?_
          refine sl_guard_y rfl rfl rfl hj ?_
          first
            | refine sl_load_rp1 rfl rfl rfl ag_4 rfl ?_
            | refine sl_load_blk1 rfl rfl rfl ag_4 (by first | exact List.Mem.head _ | exact List.Mem.tail _ (List.Mem.head _) | exact List.Mem.tail _ (List.Mem.tail _ (List.Mem.head _)) | exact List.Mem.tail _ (List.Mem.tail _ (List.Mem.tail _ (List.Mem.head _))) | exact List.Mem.tail _ (List.Mem.tail _ (List.Mem.tail _ (List.Mem.tail _ (List.Mem.head _)))) | exact List.Mem.tail _ (List.Mem.tail _ (List.Mem.tail _ (List.Mem.tail _ (List.Mem.tail _ (List.Mem.head _)))))) rfl ?_
          refine sl_guard_y rfl rfl rfl hj ?_
          refine sl_not rfl rfl rfl ?_
          refine sl_pk_t rfl rfl rfl hj rfl ?_
          refine sl_nil ?_
          refine sw_false rfl (rfl) ?_
          refine sw_exit ?_
          refine sw_seq ?_
          refine sw_seq ?_
          refine sl_region ?_
          refine sl_mv rfl rfl rfl ?_
          refine sl_nc rfl rfl rfl rfl ?_
          first
            | refine sl_fieldAddr_ptr rfl rfl rfl fo_80_1 ?_
            | refine sl_fieldAddr_rp rfl rfl rfl fo_80_1 ?_
            | refine sl_fieldAddr_ref rfl rfl rfl fo_80_1 ?_
          first
            | refine sl_load_rp1 rfl rfl rfl ag_4 rfl ?_
            | refine sl_load_blk1 rfl rfl rfl ag_4 (by first | exact List.Mem.head _ | exact List.Mem.tail _ (List.Mem.head _) | exact List.Mem.tail _ (List.Mem.tail _ (List.Mem.head _)) | exact List.Mem.tail _ (List.Mem.tail _ (List.Mem.tail _ (List.Mem.head _))) | exact List.Mem.tail _ (List.Mem.tail _ (List.Mem.tail _ (List.Mem.tail _ (List.Mem.head _)))) | exact List.Mem.tail _ (List.Mem.tail _ (List.Mem.tail _ (List.Mem.tail _ (List.Mem.tail _ (List.Mem.head _)))))) rfl ?_
          refine sl_nil ?_
          refine sw_true rfl (rfl) ?_
          refine sw_seq ?_
          refine sl_region ?_
          refine sl_bd rfl rfl .nil bi_72 zd_72 rfl ?_
          first
            | refine sl_st rfl rfl rfl rfl sz_72 rfl rfl rfl (Nat.le_of_ble_eq_true rfl) ?_
            | (refine sl_f1 ?_; refine sl_st rfl rfl rfl rfl sz_72 rfl rfl rfl (Nat.le_of_ble_eq_true rfl) ?_)
            | (refine sl_f2 ?_; refine sl_st rfl rfl rfl rfl sz_72 rfl rfl rfl (Nat.le_of_ble_eq_true rfl) ?_)
            | (refine sl_f3 ?_; refine sl_st rfl rfl rfl rfl sz_72 rfl rfl rfl (Nat.le_of_ble_eq_true rfl) ?_)
            | (refine sl_f4 ?_; refine sl_st rfl rfl rfl rfl sz_72 rfl rfl rfl (Nat.le_of_ble_eq_true rfl) ?_)
            | (refine sl_f5 ?_; refine sl_st rfl rfl rfl rfl sz_72 rfl rfl rfl (Nat.le_of_ble_eq_true rfl) ?_)
            | (refine sl_f6 ?_; refine sl_st rfl rfl rfl rfl sz_72 rfl rfl rfl (Nat.le_of_ble_eq_true rfl) ?_)
          refine sl_nil ?_
          refine sw_ret ⟨rfl, _, _, ResD.weak (res_celln rfl rfl ag_72 sz_72 (by first | exact List.Mem.head _ | exact List.Mem.tail _ (List.Mem.head _) | exact List.Mem.tail _ (List.Mem.tail _ (List.Mem.head _)) | exact List.Mem.tail _ (List.Mem.tail _ (List.Mem.tail _ (List.Mem.head _))) | exact List.Mem.tail _ (List.Mem.tail _ (List.Mem.tail _ (List.Mem.tail _ (List.Mem.head _)))) | exact List.Mem.tail _ (List.Mem.tail _ (List.Mem.tail _ (List.Mem.tail _ (List.Mem.tail _ (List.Mem.head _)))))) (Nat.le_of_ble_eq_true rfl)) ((Weak.toV rfl) ), ?_, ⟨noSumm, none, _, rfl, out_none (out_summ o1 o2 o3 (ml_great o4 hg)), fun _ => rfl, ⟨r, rfl⟩, rfl⟩⟩
          repeat (first | exact Sub.refl _ | exact Sub.none _ | refine Sub.p0 ?_ | refine Sub.p1 ?_ | refine Sub.p2 ?_ | refine Sub.p3 ?_ | refine Sub.p4 ?_ | refine Sub.p5 ?_ | refine Sub.p6 ?_ | refine Sub.drop ?_)
        · refine sl_guard_n rfl rfl rfl hj ?_
          refine sl_guard_n rfl rfl rfl hj ?_
          refine sl_guard_n rfl rfl rfl hj ?_
          refine sl_guard_n rfl rfl rfl hj ?_
          refine sl_guard_n rfl rfl rfl hj ?_
          refine sl_pk_f rfl rfl rfl hj rfl ?_
          refine sl_nil ?_
          refine sw_false rfl (rfl) ?_
          refine sw_exit ?_
          refine sw_seq ?_
          refine sw_seq ?_
          refine sl_region ?_
          refine sl_mv rfl rfl rfl ?_
          refine sl_nc rfl rfl rfl rfl ?_
          first
            | refine sl_fieldAddr_ptr rfl rfl rfl fo_80_1 ?_
            | refine sl_fieldAddr_rp rfl rfl rfl fo_80_1 ?_
            | refine sl_fieldAddr_ref rfl rfl rfl fo_80_1 ?_
          first
            | refine sl_load_rp1 rfl rfl rfl ag_4 rfl ?_
            | refine sl_load_blk1 rfl rfl rfl ag_4 (by first | exact List.Mem.head _ | exact List.Mem.tail _ (List.Mem.head _) | exact List.Mem.tail _ (List.Mem.tail _ (List.Mem.head _)) | exact List.Mem.tail _ (List.Mem.tail _ (List.Mem.tail _ (List.Mem.head _))) | exact List.Mem.tail _ (List.Mem.tail _ (List.Mem.tail _ (List.Mem.tail _ (List.Mem.head _)))) | exact List.Mem.tail _ (List.Mem.tail _ (List.Mem.tail _ (List.Mem.tail _ (List.Mem.tail _ (List.Mem.head _)))))) rfl ?_
          refine sl_nil ?_
          refine sw_true rfl (rfl) ?_
          refine sw_seq ?_
          refine sl_region ?_
          refine sl_bd rfl rfl .nil bi_72 zd_72 rfl ?_
          first
            | refine sl_st rfl rfl rfl rfl sz_72 rfl rfl rfl (Nat.le_of_ble_eq_true rfl) ?_
            | (refine sl_f1 ?_; refine sl_st rfl rfl rfl rfl sz_72 rfl rfl rfl (Nat.le_of_ble_eq_true rfl) ?_)
            | (refine sl_f2 ?_; refine sl_st rfl rfl rfl rfl sz_72 rfl rfl rfl (Nat.le_of_ble_eq_true rfl) ?_)
            | (refine sl_f3 ?_; refine sl_st rfl rfl rfl rfl sz_72 rfl rfl rfl (Nat.le_of_ble_eq_true rfl) ?_)
            | (refine sl_f4 ?_; refine sl_st rfl rfl rfl rfl sz_72 rfl rfl rfl (Nat.le_of_ble_eq_true rfl) ?_)
            | (refine sl_f5 ?_; refine sl_st rfl rfl rfl rfl sz_72 rfl rfl rfl (Nat.le_of_ble_eq_true rfl) ?_)
            | (refine sl_f6 ?_; refine sl_st rfl rfl rfl rfl sz_72 rfl rfl rfl (Nat.le_of_ble_eq_true rfl) ?_)
          refine sl_nil ?_
          refine sw_ret ⟨rfl, _, _, ResD.weak (res_celln rfl rfl ag_72 sz_72 (by first | exact List.Mem.head _ | exact List.Mem.tail _ (List.Mem.head _) | exact List.Mem.tail _ (List.Mem.tail _ (List.Mem.head _)) | exact List.Mem.tail _ (List.Mem.tail _ (List.Mem.tail _ (List.Mem.head _))) | exact List.Mem.tail _ (List.Mem.tail _ (List.Mem.tail _ (List.Mem.tail _ (List.Mem.head _)))) | exact List.Mem.tail _ (List.Mem.tail _ (List.Mem.tail _ (List.Mem.tail _ (List.Mem.tail _ (List.Mem.head _)))))) (Nat.le_of_ble_eq_true rfl)) ((Weak.toV rfl) ), ?_, ⟨noSumm, none, _, rfl, out_none (out_summ o1 o2 o3 (ml_great o4 hg)), fun _ => rfl, ⟨r, rfl⟩, rfl⟩⟩
          repeat (first | exact Sub.refl _ | exact Sub.none _ | refine Sub.p0 ?_ | refine Sub.p1 ?_ | refine Sub.p2 ?_ | refine Sub.p3 ?_ | refine Sub.p4 ?_ | refine Sub.p5 ?_ | refine Sub.p6 ?_ | refine Sub.drop ?_)
    · have hg : n ≤ r.length := by have := of_decide_eq_false hg; omega
      refine sw_skip ?_
      refine sw_seq ?_
      refine sw_seq ?_
      refine sw_less (σ' := .blk b3 ([.val (.list (al.map almV)), .val (boolV e), .val (.bool i.some), .val (.int .i64 i.lo), .val (.int .i64 i.hi), .fix []]) :: rd q r false :: .blk b2 [.fix [], .val (.bool false), .val (.bool false), .val (.int .i64 0), .val (.int .i64 0), .fix []] :: σ) (by repeat (first | exact Sub.refl _ | exact Sub.none _ | refine Sub.p0 ?_ | refine Sub.p1 ?_ | refine Sub.p2 ?_ | refine Sub.p3 ?_ | refine Sub.p4 ?_ | refine Sub.p5 ?_ | refine Sub.p6 ?_ | refine Sub.drop ?_)) ?_
      refine sw_own_blk (i := 5) (sz := 4) rfl (fun e0 => ?_)
      refine sl_region ?_
      refine sl_as rfl rfl rfl ?_
      refine sl_nil ?_
      refine sw_block ?_
      refine sw_loopw (fun nX sX δX σX => ∃ (j : Nat) (v : Value) (ml : List Nmd) (st5 : Option (List UInt8)) (c5 : Chunk), (n - j) = nX ∧ sX = ⟨58, (.cons 0 (.ptr q 0) (.cons 2 (.ptr b2 0) (.cons 3 (.ptr b3 0) (.cons 4 (.val (u64V n)) (.cons 5 (.val (.int .u64 (j : Int))) .nil)))))⟩ ∧ δX = [] ∧ σX = c5 :: .blk b3 ([.val (.list (al.map almV)), .val (boolV e), .val (.bool i.some), .val (.int .i64 i.lo), .val (.int .i64 i.hi), .own v (ml.map nmdV)]) :: .spare v 4 :: .blk b2 [.fix [], .val (.bool false), .val (.bool false), .val (.int .i64 0), .val (.int .i64 0), .fix []] :: σ ∧ j ≤ n ∧ Out (decMany decM j) (some r) ml st5 ∧ Rdr q st5 c5 ∧ ml.length ≤ j) ?_ ?_
      · refine ⟨_, _, _, ?_, ?_, 0, e0, [], some r, rd q r false, rfl, rfl, rfl, rfl, Nat.zero_le _, many_zero r, ⟨rfl, hr⟩, Nat.le_refl _⟩
        · refine ⟨rfl, ?_⟩; repeat (first | exact WkL.nil | refine WkL.cons (Weak.refl _) ?_ | refine WkL.cons (Weak.toV rfl) ?_ | refine WkL.cons (Weak.ref _) ?_ | refine WkL.cons (Weak.rp_agg _) ?_)
        · repeat (first | exact Sub.refl _ | exact Sub.none _ | refine Sub.p0 ?_ | refine Sub.p1 ?_ | refine Sub.p2 ?_ | refine Sub.p3 ?_ | refine Sub.p4 ?_ | refine Sub.p5 ?_ | refine Sub.p6 ?_ | refine Sub.drop ?_)
      · rintro nX sX δX σX ⟨j, v, ml, st5, c5, rfl, rfl, rfl, rfl, hj0, hout, hrd, hml⟩
        rcases st5 with _ | r2
        · obtain ⟨r2, rfl⟩ := hrd
          refine sw_seq ?_
          refine sw_seq ?_
          refine sl_region ?_
          refine sl_mv rfl rfl rfl ?_
          refine sl_mv rfl rfl rfl ?_
          refine sl_bin rfl rfl rfl rfl rfl ?_
          refine sl_mv rfl rfl rfl ?_
          refine sl_case_at 32 rfl (fun hj => ?_) (fun hj => ?_)
          · refine sl_guard_y rfl rfl rfl hj ?_
            refine sl_mv rfl rfl rfl ?_
            refine sl_guard_y rfl rfl rfl hj ?_
            refine sl_nc rfl rfl rfl rfl ?_
            refine sl_guard_y rfl rfl rfl hj ?_
            first
              | refine sl_fieldAddr_ptr rfl rfl rfl fo_80_1 ?_
              | refine sl_fieldAddr_rp rfl rfl rfl fo_80_1 ?_
              | refine sl_fieldAddr_ref rfl rfl rfl fo_80_1 ?_
            refine sl_guard_y rfl rfl rfl hj ?_
            first
              | refine sl_load_rp1 rfl rfl rfl ag_4 rfl ?_
              | refine sl_load_blk1 rfl rfl rfl ag_4 (by first | exact List.Mem.head _ | exact List.Mem.tail _ (List.Mem.head _) | exact List.Mem.tail _ (List.Mem.tail _ (List.Mem.head _)) | exact List.Mem.tail _ (List.Mem.tail _ (List.Mem.tail _ (List.Mem.head _))) | exact List.Mem.tail _ (List.Mem.tail _ (List.Mem.tail _ (List.Mem.tail _ (List.Mem.head _)))) | exact List.Mem.tail _ (List.Mem.tail _ (List.Mem.tail _ (List.Mem.tail _ (List.Mem.tail _ (List.Mem.head _)))))) rfl ?_
            refine sl_guard_y rfl rfl rfl hj ?_
            refine sl_not rfl rfl rfl ?_
            refine sl_pk_t rfl rfl rfl hj rfl ?_
            refine sl_nil ?_
            refine sw_false rfl (rfl) ?_
            refine sw_exit ?_
            refine sw_seq ?_
            refine sw_seq ?_
            refine sl_region ?_
            refine sl_mv rfl rfl rfl ?_
            refine sl_nc rfl rfl rfl rfl ?_
            first
              | refine sl_fieldAddr_ptr rfl rfl rfl fo_80_1 ?_
              | refine sl_fieldAddr_rp rfl rfl rfl fo_80_1 ?_
              | refine sl_fieldAddr_ref rfl rfl rfl fo_80_1 ?_
            first
              | refine sl_load_rp1 rfl rfl rfl ag_4 rfl ?_
              | refine sl_load_blk1 rfl rfl rfl ag_4 (by first | exact List.Mem.head _ | exact List.Mem.tail _ (List.Mem.head _) | exact List.Mem.tail _ (List.Mem.tail _ (List.Mem.head _)) | exact List.Mem.tail _ (List.Mem.tail _ (List.Mem.tail _ (List.Mem.head _))) | exact List.Mem.tail _ (List.Mem.tail _ (List.Mem.tail _ (List.Mem.tail _ (List.Mem.head _)))) | exact List.Mem.tail _ (List.Mem.tail _ (List.Mem.tail _ (List.Mem.tail _ (List.Mem.tail _ (List.Mem.head _)))))) rfl ?_
            refine sl_nil ?_
            refine sw_true rfl (rfl) ?_
            refine sw_seq ?_
            refine sl_region ?_
            refine sl_bd rfl rfl .nil bi_72 zd_72 rfl ?_
            first
              | refine sl_st rfl rfl rfl rfl sz_72 rfl rfl rfl (Nat.le_of_ble_eq_true rfl) ?_
              | (refine sl_f1 ?_; refine sl_st rfl rfl rfl rfl sz_72 rfl rfl rfl (Nat.le_of_ble_eq_true rfl) ?_)
              | (refine sl_f2 ?_; refine sl_st rfl rfl rfl rfl sz_72 rfl rfl rfl (Nat.le_of_ble_eq_true rfl) ?_)
              | (refine sl_f3 ?_; refine sl_st rfl rfl rfl rfl sz_72 rfl rfl rfl (Nat.le_of_ble_eq_true rfl) ?_)
              | (refine sl_f4 ?_; refine sl_st rfl rfl rfl rfl sz_72 rfl rfl rfl (Nat.le_of_ble_eq_true rfl) ?_)
              | (refine sl_f5 ?_; refine sl_st rfl rfl rfl rfl sz_72 rfl rfl rfl (Nat.le_of_ble_eq_true rfl) ?_)
              | (refine sl_f6 ?_; refine sl_st rfl rfl rfl rfl sz_72 rfl rfl rfl (Nat.le_of_ble_eq_true rfl) ?_)
            refine sl_nil ?_
            refine sw_ret ⟨rfl, _, _, ResD.weak (res_celln rfl rfl ag_72 sz_72 (by first | exact List.Mem.head _ | exact List.Mem.tail _ (List.Mem.head _) | exact List.Mem.tail _ (List.Mem.tail _ (List.Mem.head _)) | exact List.Mem.tail _ (List.Mem.tail _ (List.Mem.tail _ (List.Mem.head _))) | exact List.Mem.tail _ (List.Mem.tail _ (List.Mem.tail _ (List.Mem.tail _ (List.Mem.head _)))) | exact List.Mem.tail _ (List.Mem.tail _ (List.Mem.tail _ (List.Mem.tail _ (List.Mem.tail _ (List.Mem.head _)))))) (Nat.le_of_ble_eq_true rfl)) ((Weak.toV rfl) ), ?_, ⟨noSumm, none, _, rfl, out_none (out_summ o1 o2 o3 (ml_some o4 hg (many_fail (ys := []) hout n hj0))), fun _ => rfl, ⟨r2, rfl⟩, rfl⟩⟩
            repeat (first | exact Sub.refl _ | exact Sub.none _ | refine Sub.p0 ?_ | refine Sub.p1 ?_ | refine Sub.p2 ?_ | refine Sub.p3 ?_ | refine Sub.p4 ?_ | refine Sub.p5 ?_ | refine Sub.p6 ?_ | refine Sub.drop ?_)
          · refine sl_guard_n rfl rfl rfl hj ?_
            refine sl_guard_n rfl rfl rfl hj ?_
            refine sl_guard_n rfl rfl rfl hj ?_
            refine sl_guard_n rfl rfl rfl hj ?_
            refine sl_guard_n rfl rfl rfl hj ?_
            refine sl_pk_f rfl rfl rfl hj rfl ?_
            refine sl_nil ?_
            refine sw_false rfl (rfl) ?_
            refine sw_exit ?_
            refine sw_seq ?_
            refine sw_seq ?_
            refine sl_region ?_
            refine sl_mv rfl rfl rfl ?_
            refine sl_nc rfl rfl rfl rfl ?_
            first
              | refine sl_fieldAddr_ptr rfl rfl rfl fo_80_1 ?_
              | refine sl_fieldAddr_rp rfl rfl rfl fo_80_1 ?_
              | refine sl_fieldAddr_ref rfl rfl rfl fo_80_1 ?_
            first
              | refine sl_load_rp1 rfl rfl rfl ag_4 rfl ?_
              | refine sl_load_blk1 rfl rfl rfl ag_4 (by first | exact List.Mem.head _ | exact List.Mem.tail _ (List.Mem.head _) | exact List.Mem.tail _ (List.Mem.tail _ (List.Mem.head _)) | exact List.Mem.tail _ (List.Mem.tail _ (List.Mem.tail _ (List.Mem.head _))) | exact List.Mem.tail _ (List.Mem.tail _ (List.Mem.tail _ (List.Mem.tail _ (List.Mem.head _)))) | exact List.Mem.tail _ (List.Mem.tail _ (List.Mem.tail _ (List.Mem.tail _ (List.Mem.tail _ (List.Mem.head _)))))) rfl ?_
            refine sl_nil ?_
            refine sw_true rfl (rfl) ?_
            refine sw_seq ?_
            refine sl_region ?_
            refine sl_bd rfl rfl .nil bi_72 zd_72 rfl ?_
            first
              | refine sl_st rfl rfl rfl rfl sz_72 rfl rfl rfl (Nat.le_of_ble_eq_true rfl) ?_
              | (refine sl_f1 ?_; refine sl_st rfl rfl rfl rfl sz_72 rfl rfl rfl (Nat.le_of_ble_eq_true rfl) ?_)
              | (refine sl_f2 ?_; refine sl_st rfl rfl rfl rfl sz_72 rfl rfl rfl (Nat.le_of_ble_eq_true rfl) ?_)
              | (refine sl_f3 ?_; refine sl_st rfl rfl rfl rfl sz_72 rfl rfl rfl (Nat.le_of_ble_eq_true rfl) ?_)
              | (refine sl_f4 ?_; refine sl_st rfl rfl rfl rfl sz_72 rfl rfl rfl (Nat.le_of_ble_eq_true rfl) ?_)
              | (refine sl_f5 ?_; refine sl_st rfl rfl rfl rfl sz_72 rfl rfl rfl (Nat.le_of_ble_eq_true rfl) ?_)
              | (refine sl_f6 ?_; refine sl_st rfl rfl rfl rfl sz_72 rfl rfl rfl (Nat.le_of_ble_eq_true rfl) ?_)
            refine sl_nil ?_
            refine sw_ret ⟨rfl, _, _, ResD.weak (res_celln rfl rfl ag_72 sz_72 (by first | exact List.Mem.head _ | exact List.Mem.tail _ (List.Mem.head _) | exact List.Mem.tail _ (List.Mem.tail _ (List.Mem.head _)) | exact List.Mem.tail _ (List.Mem.tail _ (List.Mem.tail _ (List.Mem.head _))) | exact List.Mem.tail _ (List.Mem.tail _ (List.Mem.tail _ (List.Mem.tail _ (List.Mem.head _)))) | exact List.Mem.tail _ (List.Mem.tail _ (List.Mem.tail _ (List.Mem.tail _ (List.Mem.tail _ (List.Mem.head _)))))) (Nat.le_of_ble_eq_true rfl)) ((Weak.toV rfl) ), ?_, ⟨noSumm, none, _, rfl, out_none (out_summ o1 o2 o3 (ml_some o4 hg (many_fail (ys := []) hout n hj0))), fun _ => rfl, ⟨r2, rfl⟩, rfl⟩⟩
            repeat (first | exact Sub.refl _ | exact Sub.none _ | refine Sub.p0 ?_ | refine Sub.p1 ?_ | refine Sub.p2 ?_ | refine Sub.p3 ?_ | refine Sub.p4 ?_ | refine Sub.p5 ?_ | refine Sub.p6 ?_ | refine Sub.drop ?_)
        · obtain ⟨rfl, hr2⟩ := hrd
          refine sw_seq ?_
          refine sw_seq ?_
          refine sl_region ?_
          refine sl_mv rfl rfl rfl ?_
          refine sl_mv rfl rfl rfl ?_
          refine sl_bin rfl rfl rfl rfl rfl ?_
          refine sl_mv rfl rfl rfl ?_
          refine sl_case_at 32 rfl (fun hj => ?_) (fun hj => ?_)
          · have hj1 : j < n := by have := of_decide_eq_true hj; omega
            refine sl_guard_y rfl rfl rfl hj ?_
            refine sl_mv rfl rfl rfl ?_
            refine sl_guard_y rfl rfl rfl hj ?_
            refine sl_nc rfl rfl rfl rfl ?_
            refine sl_guard_y rfl rfl rfl hj ?_
            first
              | refine sl_fieldAddr_ptr rfl rfl rfl fo_80_1 ?_
              | refine sl_fieldAddr_rp rfl rfl rfl fo_80_1 ?_
              | refine sl_fieldAddr_ref rfl rfl rfl fo_80_1 ?_
            refine sl_guard_y rfl rfl rfl hj ?_
            first
              | refine sl_load_rp1 rfl rfl rfl ag_4 rfl ?_
              | refine sl_load_blk1 rfl rfl rfl ag_4 (by first | exact List.Mem.head _ | exact List.Mem.tail _ (List.Mem.head _) | exact List.Mem.tail _ (List.Mem.tail _ (List.Mem.head _)) | exact List.Mem.tail _ (List.Mem.tail _ (List.Mem.tail _ (List.Mem.head _))) | exact List.Mem.tail _ (List.Mem.tail _ (List.Mem.tail _ (List.Mem.tail _ (List.Mem.head _)))) | exact List.Mem.tail _ (List.Mem.tail _ (List.Mem.tail _ (List.Mem.tail _ (List.Mem.tail _ (List.Mem.head _)))))) rfl ?_
            refine sl_guard_y rfl rfl rfl hj ?_
            refine sl_not rfl rfl rfl ?_
            refine sl_pk_t rfl rfl rfl hj rfl ?_
            refine sl_nil ?_
            refine sw_true rfl (rfl) ?_
            have o6 := out_rdOf (dec := decT) (z := []) (some r2)
            refine sw_skip ?_
            refine sw_seq ?_
            refine sw_block ?_
            refine sw_seq ?_
            refine sl_region ?_
            refine sl_mv rfl rfl rfl ?_
            refine sl_callf rfl rfl cal_42 (ytext_ok q (some r2) (rd q r2 false) (.blk b3 ([.val (.list (al.map almV)), .val (boolV e), .val (.bool i.some), .val (.int .i64 i.lo), .val (.int .i64 i.hi), .own v (ml.map nmdV)]) :: .spare v 4 :: .blk b2 [.fix [], .val (.bool false), .val (.bool false), .val (.int .i64 0), .val (.int .i64 0), .fix []] :: σ) ⟨rfl, hr2⟩) ?_ ?_ ?_ (fun _ _ h => h.elim)
            · repeat (first | exact Weaks.nil | refine Weaks.cons (Weak.junk _) ?_ | refine Weaks.cons (Weak.refl _) ?_ | refine Weaks.cons (Weak.toV rfl) ?_ | refine Weaks.cons (Weak.ref _) ?_ | refine Weaks.cons (Weak.rp_agg _) ?_)
            · repeat (first | exact Sub.refl _ | exact Sub.none _ | refine Sub.p0 ?_ | refine Sub.p1 ?_ | refine Sub.p2 ?_ | refine Sub.p3 ?_ | refine Sub.p4 ?_ | refine Sub.p5 ?_ | refine Sub.p6 ?_ | refine Sub.drop ?_)
            rintro _ _ ⟨rfl, c6, h6, rfl⟩
            obtain ⟨tx, htx⟩ : ∃ b, b = (rdOf decT [] (some r2)).1 := ⟨_, rfl⟩
            obtain ⟨st6, hst6⟩ : ∃ b, b = (rdOf decT [] (some r2)).2 := ⟨_, rfl⟩
            rw [← htx, ← hst6] at o6
            rw [← hst6] at h6
            rw [← htx]
            refine sl_as rfl rfl rfl ?_
            refine sl_nil ?_
            refine sa_start [] mixed ?_
            first
              | refine sa_take 0 rfl rfl (by kernel_rfl) (by kernel_rfl) (by kernel_rfl) exacts_nil (pu_fieldAddr_ptr rfl rfl fo_72_3) ?_
              | refine sa_take 0 rfl rfl (by kernel_rfl) (by kernel_rfl) (by kernel_rfl) exacts_nil (pu_fieldAddr_rp rfl rfl fo_72_3) ?_
              | refine sa_take 0 rfl rfl (by kernel_rfl) (by kernel_rfl) (by kernel_rfl) exacts_nil (pu_fieldAddr_ref rfl rfl fo_72_3) ?_
            refine sa_take 2 rfl rfl (by kernel_rfl) (by kernel_rfl) (by kernel_rfl) exacts_nil (pu_mv rfl rfl) ?_
            refine sa_take 3 rfl rfl (by kernel_rfl) (by kernel_rfl) (by kernel_rfl) exacts_nil (pu_mv rfl rfl) ?_
            refine sa_two 1 4 (by kernel_rfl) rfl rfl ?_ ?_
            · refine sl_load_blk1 rfl rfl rfl ag_70 (by first | exact List.Mem.head _ | exact List.Mem.tail _ (List.Mem.head _) | exact List.Mem.tail _ (List.Mem.tail _ (List.Mem.head _)) | exact List.Mem.tail _ (List.Mem.tail _ (List.Mem.tail _ (List.Mem.head _))) | exact List.Mem.tail _ (List.Mem.tail _ (List.Mem.tail _ (List.Mem.tail _ (List.Mem.head _)))) | exact List.Mem.tail _ (List.Mem.tail _ (List.Mem.tail _ (List.Mem.tail _ (List.Mem.tail _ (List.Mem.head _)))))) rfl ?_
              refine sl_nil ⟨exacts_nil, ?_⟩
              refine sa_one 4 (by kernel_rfl) rfl ?_
              refine sl_callf rfl rfl cal_87 (yival_ok q st6 c6 (.blk b3 ([.val (.list (al.map almV)), .val (boolV e), .val (.bool i.some), .val (.int .i64 i.lo), .val (.int .i64 i.hi), .own v (ml.map nmdV)]) :: .spare v 4 :: .blk b2 [.fix [], .val (.bool false), .val (.bool false), .val (.int .i64 0), .val (.int .i64 0), .fix []] :: σ) h6) ?_ ?_ ?_ (fun _ _ h => h.elim)
              · repeat (first | exact Weaks.nil | refine Weaks.cons (Weak.junk _) ?_ | refine Weaks.cons (Weak.refl _) ?_ | refine Weaks.cons (Weak.toV rfl) ?_ | refine Weaks.cons (Weak.ref _) ?_ | refine Weaks.cons (Weak.rp_agg _) ?_)
              · repeat (first | exact Sub.refl _ | exact Sub.none _ | refine Sub.p0 ?_ | refine Sub.p1 ?_ | refine Sub.p2 ?_ | refine Sub.p3 ?_ | refine Sub.p4 ?_ | refine Sub.p5 ?_ | refine Sub.p6 ?_ | refine Sub.drop ?_)
              rintro _ _ ⟨i7, st7, c7, rfl, o7, h7, rfl⟩
              refine sl_nil ⟨exacts_nil, ?_⟩
              refine sa_take 5 rfl rfl (by kernel_rfl) (by kernel_rfl) (by kernel_rfl) exacts_nil (pu_bd rfl (.cons rfl (.cons rfl .nil)) bi_127 zd_127 rfl) ?_
              refine sa_one 6 (by kernel_rfl) rfl ?_
              refine sl_bsn ([nmdV ⟨tx, i7⟩]) rfl rfl (.cons rfl .nil) u_70 sz_127 zs_127 (by decide) rfl rfl rfl (by repeat (first | exact sized_nil | exact sized_map (fun _ => ⟨rfl, rfl⟩) | refine sized_cons rfl rfl ?_ | refine sized_append ?_ ?_ | assumption)) ?_
              refine sl_nil ⟨exacts_nil, ?_⟩
              refine sa_one 7 (by kernel_rfl) rfl ?_
              first
                | refine sl_app rfl rfl rfl rfl u_70 ⟨_, u_70, rfl⟩ el_127 (by repeat (first | exact sized_nil | exact sized_map (fun _ => ⟨rfl, rfl⟩) | refine sized_cons rfl rfl ?_ | refine sized_append ?_ ?_ | assumption)) (by repeat (first | exact sized_nil | exact sized_map (fun _ => ⟨rfl, rfl⟩) | refine sized_cons rfl rfl ?_ | refine sized_append ?_ ?_ | assumption)) (by simp only [List.length_map, List.length_cons, List.length_nil]; omega) ((by rw [List.map_append]; rfl : _ = (ml ++ [Nmd.mk tx i7]).map nmdV)) (fun v50 => ?_)
                | (refine sl_f1 ?_; refine sl_app rfl rfl rfl rfl u_70 ⟨_, u_70, rfl⟩ el_127 (by repeat (first | exact sized_nil | exact sized_map (fun _ => ⟨rfl, rfl⟩) | refine sized_cons rfl rfl ?_ | refine sized_append ?_ ?_ | assumption)) (by repeat (first | exact sized_nil | exact sized_map (fun _ => ⟨rfl, rfl⟩) | refine sized_cons rfl rfl ?_ | refine sized_append ?_ ?_ | assumption)) (by simp only [List.length_map, List.length_cons, List.length_nil]; omega) ((by rw [List.map_append]; rfl : _ = (ml ++ [Nmd.mk tx i7]).map nmdV)) (fun v50 => ?_))
                | (refine sl_f2 ?_; refine sl_app rfl rfl rfl rfl u_70 ⟨_, u_70, rfl⟩ el_127 (by repeat (first | exact sized_nil | exact sized_map (fun _ => ⟨rfl, rfl⟩) | refine sized_cons rfl rfl ?_ | refine sized_append ?_ ?_ | assumption)) (by repeat (first | exact sized_nil | exact sized_map (fun _ => ⟨rfl, rfl⟩) | refine sized_cons rfl rfl ?_ | refine sized_append ?_ ?_ | assumption)) (by simp only [List.length_map, List.length_cons, List.length_nil]; omega) ((by rw [List.map_append]; rfl : _ = (ml ++ [Nmd.mk tx i7]).map nmdV)) (fun v50 => ?_))
                | (refine sl_f3 ?_; refine sl_app rfl rfl rfl rfl u_70 ⟨_, u_70, rfl⟩ el_127 (by repeat (first | exact sized_nil | exact sized_map (fun _ => ⟨rfl, rfl⟩) | refine sized_cons rfl rfl ?_ | refine sized_append ?_ ?_ | assumption)) (by repeat (first | exact sized_nil | exact sized_map (fun _ => ⟨rfl, rfl⟩) | refine sized_cons rfl rfl ?_ | refine sized_append ?_ ?_ | assumption)) (by simp only [List.length_map, List.length_cons, List.length_nil]; omega) ((by rw [List.map_append]; rfl : _ = (ml ++ [Nmd.mk tx i7]).map nmdV)) (fun v50 => ?_))
                | (refine sl_f4 ?_; refine sl_app rfl rfl rfl rfl u_70 ⟨_, u_70, rfl⟩ el_127 (by repeat (first | exact sized_nil | exact sized_map (fun _ => ⟨rfl, rfl⟩) | refine sized_cons rfl rfl ?_ | refine sized_append ?_ ?_ | assumption)) (by repeat (first | exact sized_nil | exact sized_map (fun _ => ⟨rfl, rfl⟩) | refine sized_cons rfl rfl ?_ | refine sized_append ?_ ?_ | assumption)) (by simp only [List.length_map, List.length_cons, List.length_nil]; omega) ((by rw [List.map_append]; rfl : _ = (ml ++ [Nmd.mk tx i7]).map nmdV)) (fun v50 => ?_))
                | (refine sl_f5 ?_; refine sl_app rfl rfl rfl rfl u_70 ⟨_, u_70, rfl⟩ el_127 (by repeat (first | exact sized_nil | exact sized_map (fun _ => ⟨rfl, rfl⟩) | refine sized_cons rfl rfl ?_ | refine sized_append ?_ ?_ | assumption)) (by repeat (first | exact sized_nil | exact sized_map (fun _ => ⟨rfl, rfl⟩) | refine sized_cons rfl rfl ?_ | refine sized_append ?_ ?_ | assumption)) (by simp only [List.length_map, List.length_cons, List.length_nil]; omega) ((by rw [List.map_append]; rfl : _ = (ml ++ [Nmd.mk tx i7]).map nmdV)) (fun v50 => ?_))
                | (refine sl_f6 ?_; refine sl_app rfl rfl rfl rfl u_70 ⟨_, u_70, rfl⟩ el_127 (by repeat (first | exact sized_nil | exact sized_map (fun _ => ⟨rfl, rfl⟩) | refine sized_cons rfl rfl ?_ | refine sized_append ?_ ?_ | assumption)) (by repeat (first | exact sized_nil | exact sized_map (fun _ => ⟨rfl, rfl⟩) | refine sized_cons rfl rfl ?_ | refine sized_append ?_ ?_ | assumption)) (by simp only [List.length_map, List.length_cons, List.length_nil]; omega) ((by rw [List.map_append]; rfl : _ = (ml ++ [Nmd.mk tx i7]).map nmdV)) (fun v50 => ?_))
              refine sl_nil ⟨exacts_nil, ?_⟩
              first
                | refine sa_take 8 rfl rfl (by kernel_rfl) (by kernel_rfl) (by kernel_rfl) exacts_nil (pu_fieldAddr_ptr rfl rfl fo_72_3) ?_
                | refine sa_take 8 rfl rfl (by kernel_rfl) (by kernel_rfl) (by kernel_rfl) exacts_nil (pu_fieldAddr_rp rfl rfl fo_72_3) ?_
                | refine sa_take 8 rfl rfl (by kernel_rfl) (by kernel_rfl) (by kernel_rfl) exacts_nil (pu_fieldAddr_ref rfl rfl fo_72_3) ?_
              refine sa_one 9 (by kernel_rfl) rfl ?_
              first
                | refine sl_st rfl rfl rfl rfl sz_70 rfl rfl rfl (Nat.le_of_ble_eq_true rfl) ?_
                | (refine sl_f1 ?_; refine sl_st rfl rfl rfl rfl sz_70 rfl rfl rfl (Nat.le_of_ble_eq_true rfl) ?_)
                | (refine sl_f2 ?_; refine sl_st rfl rfl rfl rfl sz_70 rfl rfl rfl (Nat.le_of_ble_eq_true rfl) ?_)
                | (refine sl_f3 ?_; refine sl_st rfl rfl rfl rfl sz_70 rfl rfl rfl (Nat.le_of_ble_eq_true rfl) ?_)
                | (refine sl_f4 ?_; refine sl_st rfl rfl rfl rfl sz_70 rfl rfl rfl (Nat.le_of_ble_eq_true rfl) ?_)
                | (refine sl_f5 ?_; refine sl_st rfl rfl rfl rfl sz_70 rfl rfl rfl (Nat.le_of_ble_eq_true rfl) ?_)
                | (refine sl_f6 ?_; refine sl_st rfl rfl rfl rfl sz_70 rfl rfl rfl (Nat.le_of_ble_eq_true rfl) ?_)
              refine sl_nil ⟨exacts_nil, ?_⟩
              refine sa_done (by kernel_rfl) ?_
              refine sl_region ?_
              refine sl_mv rfl rfl rfl ?_
              refine sl_bin rfl rfl rfl rfl rfl ?_
              refine sl_set 40 (.val (.int .u64 ((j + 1 : Nat) : Int))) (congrArg (fun z => D.val (.int .u64 z)) (wrapped_u64 (j + 1) (by omega))) ?_
              refine sl_as rfl rfl rfl ?_
              refine sl_nil ?_
              refine ⟨_, by omega, _, _, ?_, ?_, j + 1, v50, _, st7, c7, rfl, rfl, rfl, rfl, by omega, many_succ hout (out_nmd o6 o7), h7, by rw [List.length_append]; simp; omega⟩
              · refine ⟨rfl, ?_⟩; repeat (first | exact WkL.nil | refine WkL.cons (Weak.refl _) ?_ | refine WkL.cons (Weak.toV rfl) ?_ | refine WkL.cons (Weak.ref _) ?_ | refine WkL.cons (Weak.rp_agg _) ?_)
              · repeat (first | exact Sub.refl _ | exact Sub.none _ | refine Sub.p0 ?_ | refine Sub.p1 ?_ | refine Sub.p2 ?_ | refine Sub.p3 ?_ | refine Sub.p4 ?_ | refine Sub.p5 ?_ | refine Sub.p6 ?_ | refine Sub.drop ?_)
            · refine sl_callf rfl rfl cal_87 (yival_ok q st6 c6 (.blk b3 ([.val (.list (al.map almV)), .val (boolV e), .val (.bool i.some), .val (.int .i64 i.lo), .val (.int .i64 i.hi), .own v (ml.map nmdV)]) :: .spare v 4 :: .blk b2 [.fix [], .val (.bool false), .val (.bool false), .val (.int .i64 0), .val (.int .i64 0), .fix []] :: σ) h6) ?_ ?_ ?_ (fun _ _ h => h.elim)
              · repeat (first | exact Weaks.nil | refine Weaks.cons (Weak.junk _) ?_ | refine Weaks.cons (Weak.refl _) ?_ | refine Weaks.cons (Weak.toV rfl) ?_ | refine Weaks.cons (Weak.ref _) ?_ | refine Weaks.cons (Weak.rp_agg _) ?_)
              · repeat (first | exact Sub.refl _ | exact Sub.none _ | refine Sub.p0 ?_ | refine Sub.p1 ?_ | refine Sub.p2 ?_ | refine Sub.p3 ?_ | refine Sub.p4 ?_ | refine Sub.p5 ?_ | refine Sub.p6 ?_ | refine Sub.drop ?_)
              rintro _ _ ⟨i7, st7, c7, rfl, o7, h7, rfl⟩
              refine sl_nil ⟨exacts_nil, ?_⟩
              refine sa_take 5 rfl rfl (by kernel_rfl) (by kernel_rfl) (by kernel_rfl) exacts_nil (pu_bd rfl (.cons rfl (.cons rfl .nil)) bi_127 zd_127 rfl) ?_
              refine sa_two 1 6 (by kernel_rfl) rfl rfl ?_ ?_
              · refine sl_load_blk1 rfl rfl rfl ag_70 (by first | exact List.Mem.head _ | exact List.Mem.tail _ (List.Mem.head _) | exact List.Mem.tail _ (List.Mem.tail _ (List.Mem.head _)) | exact List.Mem.tail _ (List.Mem.tail _ (List.Mem.tail _ (List.Mem.head _))) | exact List.Mem.tail _ (List.Mem.tail _ (List.Mem.tail _ (List.Mem.tail _ (List.Mem.head _)))) | exact List.Mem.tail _ (List.Mem.tail _ (List.Mem.tail _ (List.Mem.tail _ (List.Mem.tail _ (List.Mem.head _)))))) rfl ?_
                refine sl_nil ⟨exacts_nil, ?_⟩
                refine sa_one 6 (by kernel_rfl) rfl ?_
                refine sl_bsn ([nmdV ⟨tx, i7⟩]) rfl rfl (.cons rfl .nil) u_70 sz_127 zs_127 (by decide) rfl rfl rfl (by repeat (first | exact sized_nil | exact sized_map (fun _ => ⟨rfl, rfl⟩) | refine sized_cons rfl rfl ?_ | refine sized_append ?_ ?_ | assumption)) ?_
                refine sl_nil ⟨exacts_nil, ?_⟩
                refine sa_one 7 (by kernel_rfl) rfl ?_
                first
                  | refine sl_app rfl rfl rfl rfl u_70 ⟨_, u_70, rfl⟩ el_127 (by repeat (first | exact sized_nil | exact sized_map (fun _ => ⟨rfl, rfl⟩) | refine sized_cons rfl rfl ?_ | refine sized_append ?_ ?_ | assumption)) (by repeat (first | exact sized_nil | exact sized_map (fun _ => ⟨rfl, rfl⟩) | refine sized_cons rfl rfl ?_ | refine sized_append ?_ ?_ | assumption)) (by simp only [List.length_map, List.length_cons, List.length_nil]; omega) ((by rw [List.map_append]; rfl : _ = (ml ++ [Nmd.mk tx i7]).map nmdV)) (fun v50 => ?_)
                  | (refine sl_f1 ?_; refine sl_app rfl rfl rfl rfl u_70 ⟨_, u_70, rfl⟩ el_127 (by repeat (first | exact sized_nil | exact sized_map (fun _ => ⟨rfl, rfl⟩) | refine sized_cons rfl rfl ?_ | refine sized_append ?_ ?_ | assumption)) (by repeat (first | exact sized_nil | exact sized_map (fun _ => ⟨rfl, rfl⟩) | refine sized_cons rfl rfl ?_ | refine sized_append ?_ ?_ | assumption)) (by simp only [List.length_map, List.length_cons, List.length_nil]; omega) ((by rw [List.map_append]; rfl : _ = (ml ++ [Nmd.mk tx i7]).map nmdV)) (fun v50 => ?_))
                  | (refine sl_f2 ?_; refine sl_app rfl rfl rfl rfl u_70 ⟨_, u_70, rfl⟩ el_127 (by repeat (first | exact sized_nil | exact sized_map (fun _ => ⟨rfl, rfl⟩) | refine sized_cons rfl rfl ?_ | refine sized_append ?_ ?_ | assumption)) (by repeat (first | exact sized_nil | exact sized_map (fun _ => ⟨rfl, rfl⟩) | refine sized_cons rfl rfl ?_ | refine sized_append ?_ ?_ | assumption)) (by simp only [List.length_map, List.length_cons, List.length_nil]; omega) ((by rw [List.map_append]; rfl : _ = (ml ++ [Nmd.mk tx i7]).map nmdV)) (fun v50 => ?_))
                  | (refine sl_f3 ?_; refine sl_app rfl rfl rfl rfl u_70 ⟨_, u_70, rfl⟩ el_127 (by repeat (first | exact sized_nil | exact sized_map (fun _ => ⟨rfl, rfl⟩) | refine sized_cons rfl rfl ?_ | refine sized_append ?_ ?_ | assumption)) (by repeat (first | exact sized_nil | exact sized_map (fun _ => ⟨rfl, rfl⟩) | refine sized_cons rfl rfl ?_ | refine sized_append ?_ ?_ | assumption)) (by simp only [List.length_map, List.length_cons, List.length_nil]; omega) ((by rw [List.map_append]; rfl : _ = (ml ++ [Nmd.mk tx i7]).map nmdV)) (fun v50 => ?_))
                  | (refine sl_f4 ?_; refine sl_app rfl rfl rfl rfl u_70 ⟨_, u_70, rfl⟩ el_127 (by repeat (first | exact sized_nil | exact sized_map (fun _ => ⟨rfl, rfl⟩) | refine sized_cons rfl rfl ?_ | refine sized_append ?_ ?_ | assumption)) (by repeat (first | exact sized_nil | exact sized_map (fun _ => ⟨rfl, rfl⟩) | refine sized_cons rfl rfl ?_ | refine sized_append ?_ ?_ | assumption)) (by simp only [List.length_map, List.length_cons, List.length_nil]; omega) ((by rw [List.map_append]; rfl : _ = (ml ++ [Nmd.mk tx i7]).map nmdV)) (fun v50 => ?_))
                  | (refine sl_f5 ?_; refine sl_app rfl rfl rfl rfl u_70 ⟨_, u_70, rfl⟩ el_127 (by repeat (first | exact sized_nil | exact sized_map (fun _ => ⟨rfl, rfl⟩) | refine sized_cons rfl rfl ?_ | refine sized_append ?_ ?_ | assumption)) (by repeat (first | exact sized_nil | exact sized_map (fun _ => ⟨rfl, rfl⟩) | refine sized_cons rfl rfl ?_ | refine sized_append ?_ ?_ | assumption)) (by simp only [List.length_map, List.length_cons, List.length_nil]; omega) ((by rw [List.map_append]; rfl : _ = (ml ++ [Nmd.mk tx i7]).map nmdV)) (fun v50 => ?_))
                  | (refine sl_f6 ?_; refine sl_app rfl rfl rfl rfl u_70 ⟨_, u_70, rfl⟩ el_127 (by repeat (first | exact sized_nil | exact sized_map (fun _ => ⟨rfl, rfl⟩) | refine sized_cons rfl rfl ?_ | refine sized_append ?_ ?_ | assumption)) (by repeat (first | exact sized_nil | exact sized_map (fun _ => ⟨rfl, rfl⟩) | refine sized_cons rfl rfl ?_ | refine sized_append ?_ ?_ | assumption)) (by simp only [List.length_map, List.length_cons, List.length_nil]; omega) ((by rw [List.map_append]; rfl : _ = (ml ++ [Nmd.mk tx i7]).map nmdV)) (fun v50 => ?_))
                refine sl_nil ⟨exacts_nil, ?_⟩
                first
                  | refine sa_take 8 rfl rfl (by kernel_rfl) (by kernel_rfl) (by kernel_rfl) exacts_nil (pu_fieldAddr_ptr rfl rfl fo_72_3) ?_
                  | refine sa_take 8 rfl rfl (by kernel_rfl) (by kernel_rfl) (by kernel_rfl) exacts_nil (pu_fieldAddr_rp rfl rfl fo_72_3) ?_
                  | refine sa_take 8 rfl rfl (by kernel_rfl) (by kernel_rfl) (by kernel_rfl) exacts_nil (pu_fieldAddr_ref rfl rfl fo_72_3) ?_
                refine sa_one 9 (by kernel_rfl) rfl ?_
                first
                  | refine sl_st rfl rfl rfl rfl sz_70 rfl rfl rfl (Nat.le_of_ble_eq_true rfl) ?_
                  | (refine sl_f1 ?_; refine sl_st rfl rfl rfl rfl sz_70 rfl rfl rfl (Nat.le_of_ble_eq_true rfl) ?_)
                  | (refine sl_f2 ?_; refine sl_st rfl rfl rfl rfl sz_70 rfl rfl rfl (Nat.le_of_ble_eq_true rfl) ?_)
                  | (refine sl_f3 ?_; refine sl_st rfl rfl rfl rfl sz_70 rfl rfl rfl (Nat.le_of_ble_eq_true rfl) ?_)
                  | (refine sl_f4 ?_; refine sl_st rfl rfl rfl rfl sz_70 rfl rfl rfl (Nat.le_of_ble_eq_true rfl) ?_)
                  | (refine sl_f5 ?_; refine sl_st rfl rfl rfl rfl sz_70 rfl rfl rfl (Nat.le_of_ble_eq_true rfl) ?_)
                  | (refine sl_f6 ?_; refine sl_st rfl rfl rfl rfl sz_70 rfl rfl rfl (Nat.le_of_ble_eq_true rfl) ?_)
                refine sl_nil ⟨exacts_nil, ?_⟩
                refine sa_done (by kernel_rfl) ?_
                refine sl_region ?_
                refine sl_mv rfl rfl rfl ?_
                refine sl_bin rfl rfl rfl rfl rfl ?_
                refine sl_set 40 (.val (.int .u64 ((j + 1 : Nat) : Int))) (congrArg (fun z => D.val (.int .u64 z)) (wrapped_u64 (j + 1) (by omega))) ?_
                refine sl_as rfl rfl rfl ?_
                refine sl_nil ?_
                refine ⟨_, by omega, _, _, ?_, ?_, j + 1, v50, _, st7, c7, rfl, rfl, rfl, rfl, by omega, many_succ hout (out_nmd o6 o7), h7, by rw [List.length_append]; simp; omega⟩
                · refine ⟨rfl, ?_⟩; repeat (first | exact WkL.nil | refine WkL.cons (Weak.refl _) ?_ | refine WkL.cons (Weak.toV rfl) ?_ | refine WkL.cons (Weak.ref _) ?_ | refine WkL.cons (Weak.rp_agg _) ?_)
                · repeat (first | exact Sub.refl _ | exact Sub.none _ | refine Sub.p0 ?_ | refine Sub.p1 ?_ | refine Sub.p2 ?_ | refine Sub.p3 ?_ | refine Sub.p4 ?_ | refine Sub.p5 ?_ | refine Sub.p6 ?_ | refine Sub.drop ?_)
              · refine sl_bsn ([nmdV ⟨tx, i7⟩]) rfl rfl (.cons rfl .nil) u_70 sz_127 zs_127 (by decide) rfl rfl rfl (by repeat (first | exact sized_nil | exact sized_map (fun _ => ⟨rfl, rfl⟩) | refine sized_cons rfl rfl ?_ | refine sized_append ?_ ?_ | assumption)) ?_
                refine sl_nil ⟨exacts_nil, ?_⟩
                refine sa_one 1 (by kernel_rfl) rfl ?_
                refine sl_load_blk1 rfl rfl rfl ag_70 (by first | exact List.Mem.head _ | exact List.Mem.tail _ (List.Mem.head _) | exact List.Mem.tail _ (List.Mem.tail _ (List.Mem.head _)) | exact List.Mem.tail _ (List.Mem.tail _ (List.Mem.tail _ (List.Mem.head _))) | exact List.Mem.tail _ (List.Mem.tail _ (List.Mem.tail _ (List.Mem.tail _ (List.Mem.head _)))) | exact List.Mem.tail _ (List.Mem.tail _ (List.Mem.tail _ (List.Mem.tail _ (List.Mem.tail _ (List.Mem.head _)))))) rfl ?_
                refine sl_nil ⟨exacts_nil, ?_⟩
                refine sa_one 7 (by kernel_rfl) rfl ?_
                first
                  | refine sl_app rfl rfl rfl rfl u_70 ⟨_, u_70, rfl⟩ el_127 (by repeat (first | exact sized_nil | exact sized_map (fun _ => ⟨rfl, rfl⟩) | refine sized_cons rfl rfl ?_ | refine sized_append ?_ ?_ | assumption)) (by repeat (first | exact sized_nil | exact sized_map (fun _ => ⟨rfl, rfl⟩) | refine sized_cons rfl rfl ?_ | refine sized_append ?_ ?_ | assumption)) (by simp only [List.length_map, List.length_cons, List.length_nil]; omega) ((by rw [List.map_append]; rfl : _ = (ml ++ [Nmd.mk tx i7]).map nmdV)) (fun v50 => ?_)
                  | (refine sl_f1 ?_; refine sl_app rfl rfl rfl rfl u_70 ⟨_, u_70, rfl⟩ el_127 (by repeat (first | exact sized_nil | exact sized_map (fun _ => ⟨rfl, rfl⟩) | refine sized_cons rfl rfl ?_ | refine sized_append ?_ ?_ | assumption)) (by repeat (first | exact sized_nil | exact sized_map (fun _ => ⟨rfl, rfl⟩) | refine sized_cons rfl rfl ?_ | refine sized_append ?_ ?_ | assumption)) (by simp only [List.length_map, List.length_cons, List.length_nil]; omega) ((by rw [List.map_append]; rfl : _ = (ml ++ [Nmd.mk tx i7]).map nmdV)) (fun v50 => ?_))
                  | (refine sl_f2 ?_; refine sl_app rfl rfl rfl rfl u_70 ⟨_, u_70, rfl⟩ el_127 (by repeat (first | exact sized_nil | exact sized_map (fun _ => ⟨rfl, rfl⟩) | refine sized_cons rfl rfl ?_ | refine sized_append ?_ ?_ | assumption)) (by repeat (first | exact sized_nil | exact sized_map (fun _ => ⟨rfl, rfl⟩) | refine sized_cons rfl rfl ?_ | refine sized_append ?_ ?_ | assumption)) (by simp only [List.length_map, List.length_cons, List.length_nil]; omega) ((by rw [List.map_append]; rfl : _ = (ml ++ [Nmd.mk tx i7]).map nmdV)) (fun v50 => ?_))
                  | (refine sl_f3 ?_; refine sl_app rfl rfl rfl rfl u_70 ⟨_, u_70, rfl⟩ el_127 (by repeat (first | exact sized_nil | exact sized_map (fun _ => ⟨rfl, rfl⟩) | refine sized_cons rfl rfl ?_ | refine sized_append ?_ ?_ | assumption)) (by repeat (first | exact sized_nil | exact sized_map (fun _ => ⟨rfl, rfl⟩) | refine sized_cons rfl rfl ?_ | refine sized_append ?_ ?_ | assumption)) (by simp only [List.length_map, List.length_cons, List.length_nil]; omega) ((by rw [List.map_append]; rfl : _ = (ml ++ [Nmd.mk tx i7]).map nmdV)) (fun v50 => ?_))
                  | (refine sl_f4 ?_; refine sl_app rfl rfl rfl rfl u_70 ⟨_, u_70, rfl⟩ el_127 (by repeat (first | exact sized_nil | exact sized_map (fun _ => ⟨rfl, rfl⟩) | refine sized_cons rfl rfl ?_ | refine sized_append ?_ ?_ | assumption)) (by repeat (first | exact sized_nil | exact sized_map (fun _ => ⟨rfl, rfl⟩) | refine sized_cons rfl rfl ?_ | refine sized_append ?_ ?_ | assumption)) (by simp only [List.length_map, List.length_cons, List.length_nil]; omega) ((by rw [List.map_append]; rfl : _ = (ml ++ [Nmd.mk tx i7]).map nmdV)) (fun v50 => ?_))
                  | (refine sl_f5 ?_; refine sl_app rfl rfl rfl rfl u_70 ⟨_, u_70, rfl⟩ el_127 (by repeat (first | exact sized_nil | exact sized_map (fun _ => ⟨rfl, rfl⟩) | refine sized_cons rfl rfl ?_ | refine sized_append ?_ ?_ | assumption)) (by repeat (first | exact sized_nil | exact sized_map (fun _ => ⟨rfl, rfl⟩) | refine sized_cons rfl rfl ?_ | refine sized_append ?_ ?_ | assumption)) (by simp only [List.length_map, List.length_cons, List.length_nil]; omega) ((by rw [List.map_append]; rfl : _ = (ml ++ [Nmd.mk tx i7]).map nmdV)) (fun v50 => ?_))
                  | (refine sl_f6 ?_; refine sl_app rfl rfl rfl rfl u_70 ⟨_, u_70, rfl⟩ el_127 (by repeat (first | exact sized_nil | exact sized_map (fun _ => ⟨rfl, rfl⟩) | refine sized_cons rfl rfl ?_ | refine sized_append ?_ ?_ | assumption)) (by repeat (first | exact sized_nil | exact sized_map (fun _ => ⟨rfl, rfl⟩) | refine sized_cons rfl rfl ?_ | refine sized_append ?_ ?_ | assumption)) (by simp only [List.length_map, List.length_cons, List.length_nil]; omega) ((by rw [List.map_append]; rfl : _ = (ml ++ [Nmd.mk tx i7]).map nmdV)) (fun v50 => ?_))
                refine sl_nil ⟨exacts_nil, ?_⟩
                first
                  | refine sa_take 8 rfl rfl (by kernel_rfl) (by kernel_rfl) (by kernel_rfl) exacts_nil (pu_fieldAddr_ptr rfl rfl fo_72_3) ?_
                  | refine sa_take 8 rfl rfl (by kernel_rfl) (by kernel_rfl) (by kernel_rfl) exacts_nil (pu_fieldAddr_rp rfl rfl fo_72_3) ?_
                  | refine sa_take 8 rfl rfl (by kernel_rfl) (by kernel_rfl) (by kernel_rfl) exacts_nil (pu_fieldAddr_ref rfl rfl fo_72_3) ?_
                refine sa_one 9 (by kernel_rfl) rfl ?_
                first
                  | refine sl_st rfl rfl rfl rfl sz_70 rfl rfl rfl (Nat.le_of_ble_eq_true rfl) ?_
                  | (refine sl_f1 ?_; refine sl_st rfl rfl rfl rfl sz_70 rfl rfl rfl (Nat.le_of_ble_eq_true rfl) ?_)
                  | (refine sl_f2 ?_; refine sl_st rfl rfl rfl rfl sz_70 rfl rfl rfl (Nat.le_of_ble_eq_true rfl) ?_)
                  | (refine sl_f3 ?_; refine sl_st rfl rfl rfl rfl sz_70 rfl rfl rfl (Nat.le_of_ble_eq_true rfl) ?_)
                  | (refine sl_f4 ?_; refine sl_st rfl rfl rfl rfl sz_70 rfl rfl rfl (Nat.le_of_ble_eq_true rfl) ?_)
                  | (refine sl_f5 ?_; refine sl_st rfl rfl rfl rfl sz_70 rfl rfl rfl (Nat.le_of_ble_eq_true rfl) ?_)
                  | (refine sl_f6 ?_; refine sl_st rfl rfl rfl rfl sz_70 rfl rfl rfl (Nat.le_of_ble_eq_true rfl) ?_)
                refine sl_nil ⟨exacts_nil, ?_⟩
                refine sa_done (by kernel_rfl) ?_
                refine sl_region ?_
                refine sl_mv rfl rfl rfl ?_
                refine sl_bin rfl rfl rfl rfl rfl ?_
                refine sl_set 40 (.val (.int .u64 ((j + 1 : Nat) : Int))) (congrArg (fun z => D.val (.int .u64 z)) (wrapped_u64 (j + 1) (by omega))) ?_
                refine sl_as rfl rfl rfl ?_
                refine sl_nil ?_
                refine ⟨_, by omega, _, _, ?_, ?_, j + 1, v50, _, st7, c7, rfl, rfl, rfl, rfl, by omega, many_succ hout (out_nmd o6 o7), h7, by rw [List.length_append]; simp; omega⟩
                · refine ⟨rfl, ?_⟩; repeat (first | exact WkL.nil | refine WkL.cons (Weak.refl _) ?_ | refine WkL.cons (Weak.toV rfl) ?_ | refine WkL.cons (Weak.ref _) ?_ | refine WkL.cons (Weak.rp_agg _) ?_)
                · repeat (first | exact Sub.refl _ | exact Sub.none _ | refine Sub.p0 ?_ | refine Sub.p1 ?_ | refine Sub.p2 ?_ | refine Sub.p3 ?_ | refine Sub.p4 ?_ | refine Sub.p5 ?_ | refine Sub.p6 ?_ | refine Sub.drop ?_)
          · have hj1 : j = n := by have := of_decide_eq_false hj; omega
            subst hj1
            refine sl_guard_n rfl rfl rfl hj ?_
            refine sl_guard_n rfl rfl rfl hj ?_
            refine sl_guard_n rfl rfl rfl hj ?_
            refine sl_guard_n rfl rfl rfl hj ?_
            refine sl_guard_n rfl rfl rfl hj ?_
            refine sl_pk_f rfl rfl rfl hj rfl ?_
            refine sl_nil ?_
            refine sw_false rfl (rfl) ?_
            refine sw_exit ?_
            refine sw_seq ?_
            refine sw_seq ?_
            refine sl_region ?_
            refine sl_mv rfl rfl rfl ?_
            refine sl_nc rfl rfl rfl rfl ?_
            first
              | refine sl_fieldAddr_ptr rfl rfl rfl fo_80_1 ?_
              | refine sl_fieldAddr_rp rfl rfl rfl fo_80_1 ?_
              | refine sl_fieldAddr_ref rfl rfl rfl fo_80_1 ?_
            first
              | refine sl_load_rp1 rfl rfl rfl ag_4 rfl ?_
              | refine sl_load_blk1 rfl rfl rfl ag_4 (by first | exact List.Mem.head _ | exact List.Mem.tail _ (List.Mem.head _) | exact List.Mem.tail _ (List.Mem.tail _ (List.Mem.head _)) | exact List.Mem.tail _ (List.Mem.tail _ (List.Mem.tail _ (List.Mem.head _))) | exact List.Mem.tail _ (List.Mem.tail _ (List.Mem.tail _ (List.Mem.tail _ (List.Mem.head _)))) | exact List.Mem.tail _ (List.Mem.tail _ (List.Mem.tail _ (List.Mem.tail _ (List.Mem.tail _ (List.Mem.head _)))))) rfl ?_
            refine sl_nil ?_
            refine sw_false rfl (rfl) ?_
            refine sw_skip ?_
            refine sw_seq ?_
            refine sl_region ?_
            first
              | refine sl_load_rpn rfl rfl rfl ag_72 sz_72 (Nat.le_of_ble_eq_true rfl) ?_
              | refine sl_load_blkn rfl rfl rfl ag_72 sz_72 (by first | exact List.Mem.head _ | exact List.Mem.tail _ (List.Mem.head _) | exact List.Mem.tail _ (List.Mem.tail _ (List.Mem.head _)) | exact List.Mem.tail _ (List.Mem.tail _ (List.Mem.tail _ (List.Mem.head _))) | exact List.Mem.tail _ (List.Mem.tail _ (List.Mem.tail _ (List.Mem.tail _ (List.Mem.head _)))) | exact List.Mem.tail _ (List.Mem.tail _ (List.Mem.tail _ (List.Mem.tail _ (List.Mem.tail _ (List.Mem.head _)))))) (Nat.le_of_ble_eq_true rfl) ?_
              | refine sl_load_ref rfl rfl rfl ag_72 sz_72 (Nat.le_of_ble_eq_true rfl) ?_
            first
              | refine sl_st rfl rfl rfl rfl sz_72 rfl rfl rfl (Nat.le_of_ble_eq_true rfl) ?_
              | (refine sl_f1 ?_; refine sl_st rfl rfl rfl rfl sz_72 rfl rfl rfl (Nat.le_of_ble_eq_true rfl) ?_)
              | (refine sl_f2 ?_; refine sl_st rfl rfl rfl rfl sz_72 rfl rfl rfl (Nat.le_of_ble_eq_true rfl) ?_)
              | (refine sl_f3 ?_; refine sl_st rfl rfl rfl rfl sz_72 rfl rfl rfl (Nat.le_of_ble_eq_true rfl) ?_)
              | (refine sl_f4 ?_; refine sl_st rfl rfl rfl rfl sz_72 rfl rfl rfl (Nat.le_of_ble_eq_true rfl) ?_)
              | (refine sl_f5 ?_; refine sl_st rfl rfl rfl rfl sz_72 rfl rfl rfl (Nat.le_of_ble_eq_true rfl) ?_)
              | (refine sl_f6 ?_; refine sl_st rfl rfl rfl rfl sz_72 rfl rfl rfl (Nat.le_of_ble_eq_true rfl) ?_)
            refine sl_nil ?_
            refine sw_ret ⟨rfl, _, _, ResD.weak (res_celln rfl rfl ag_72 sz_72 (by first | exact List.Mem.head _ | exact List.Mem.tail _ (List.Mem.head _) | exact List.Mem.tail _ (List.Mem.tail _ (List.Mem.head _)) | exact List.Mem.tail _ (List.Mem.tail _ (List.Mem.tail _ (List.Mem.head _))) | exact List.Mem.tail _ (List.Mem.tail _ (List.Mem.tail _ (List.Mem.tail _ (List.Mem.head _)))) | exact List.Mem.tail _ (List.Mem.tail _ (List.Mem.tail _ (List.Mem.tail _ (List.Mem.tail _ (List.Mem.head _)))))) (Nat.le_of_ble_eq_true rfl)) ((Weak.toV rfl) ), ?_, ⟨⟨al, e, i, ml⟩, some r2, _, rfl, out_summ o1 o2 o3 (ml_some o4 hg hout), fun h => (by cases h), ⟨rfl, hr2⟩, rfl⟩⟩
            repeat (first | exact Sub.refl _ | exact Sub.none _ | refine Sub.p0 ?_ | refine Sub.p1 ?_ | refine Sub.p2 ?_ | refine Sub.p3 ?_ | refine Sub.p4 ?_ | refine Sub.p5 ?_ | refine Sub.p6 ?_ | refine Sub.drop ?_)

end Go.Proofs.Ytioechdfghglhaa
