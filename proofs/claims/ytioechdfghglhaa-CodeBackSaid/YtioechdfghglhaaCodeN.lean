/- Walks: printed by a program of this session out of its script CodeN. -/
import Derived.Test.YtioechdfghglhaaSlT
import Derived.Test.YtioechdfghglhaaP9
import Derived.Test.YtioechdfghglhaaCodeM
namespace Go.Proofs.Ytioechdfghglhaa
set_option linter.unusedVariables false
set_option linter.unusedSimpArgs false
set_option maxRecDepth 4000
set_option maxHeartbeats 4000000
open Go Go.RowKit SL


/-- The document's reader: an interval. -/
theorem yival_ok (q : Nat) (st : Option (List UInt8)) (c : Chunk) (σ : List Chunk) (h : Rdr q st c) :
    FSpec Try.prog 87 [.ptr q 0] (c :: σ) (fun d σ' => ∃ i st' c', d = .val (ivlV i) ∧ Out decV st i st' ∧ Rdr q st' c' ∧ σ' = c' :: σ) := by
  have o1 := out_rdOf (dec := decB) (z := false) st
  refine spec_of_sw Try.func87 rfl ?_
  refine sw_seq ?_
  refine sl_region ?_
  refine sl_alloc rfl rfl zd_69 (fun b2 => ?_)
  refine sl_nil ?_
  refine sw_seq ?_
  refine sl_region ?_
  refine sl_alloc rfl rfl zd_69 (fun b3 => ?_)
  refine sl_nil ?_
  refine sw_seq ?_
  refine sw_seq ?_
  refine sl_region ?_
  refine sl_mv rfl rfl rfl ?_
  refine sl_callf rfl rfl cal_43 (ybool_ok q st c (.blk b2 [.val (.bool false), .val (.int .i64 0), .val (.int .i64 0)] :: .blk b3 [.val (.bool false), .val (.int .i64 0), .val (.int .i64 0)] :: σ) h) ?_ ?_ ?_ (fun _ _ h => h.elim)
  · repeat (first | exact Weaks.nil | refine Weaks.cons (Weak.junk _) ?_ | refine Weaks.cons (Weak.refl _) ?_ | refine Weaks.cons (Weak.toV rfl) ?_ | refine Weaks.cons (Weak.ref _) ?_ | refine Weaks.cons (Weak.rp_agg _) ?_)
  · repeat (first | exact Sub.refl _ | exact Sub.none _ | refine Sub.p0 ?_ | refine Sub.p1 ?_ | refine Sub.p2 ?_ | refine Sub.p3 ?_ | refine Sub.p4 ?_ | refine Sub.p5 ?_ | refine Sub.p6 ?_ | refine Sub.drop ?_)
  rintro _ _ ⟨rfl, c1, h1, rfl⟩
  obtain ⟨b, hb⟩ : ∃ b, b = (rdOf decB false st).1 := ⟨_, rfl⟩
  obtain ⟨st1, hst1⟩ : ∃ b, b = (rdOf decB false st).2 := ⟨_, rfl⟩
  rw [← hb, ← hst1] at o1
  rw [← hst1] at h1
  rw [← hb]
  refine sl_nil ?_
  refine sw_cond rfl (fun ht => ?_) (fun ht => ?_)
  · obtain rfl : b = true := ht
    have o2 := out_rdOf (dec := decI) (z := 0) st1
    have o3 := out_rdOf (dec := decI) (z := 0) (rdOf decI 0 st1).2
    refine sw_seq ?_
    refine sl_region ?_
    first
      | refine sl_fieldAddr_ptr rfl rfl rfl fo_69_0 ?_
      | refine sl_fieldAddr_rp rfl rfl rfl fo_69_0 ?_
      | refine sl_fieldAddr_ref rfl rfl rfl fo_69_0 ?_
    first
      | refine sl_st rfl rfl rfl rfl sz_4 rfl rfl rfl (Nat.le_of_ble_eq_true rfl) ?_
      | (refine sl_f1 ?_; refine sl_st rfl rfl rfl rfl sz_4 rfl rfl rfl (Nat.le_of_ble_eq_true rfl) ?_)
      | (refine sl_f2 ?_; refine sl_st rfl rfl rfl rfl sz_4 rfl rfl rfl (Nat.le_of_ble_eq_true rfl) ?_)
      | (refine sl_f3 ?_; refine sl_st rfl rfl rfl rfl sz_4 rfl rfl rfl (Nat.le_of_ble_eq_true rfl) ?_)
      | (refine sl_f4 ?_; refine sl_st rfl rfl rfl rfl sz_4 rfl rfl rfl (Nat.le_of_ble_eq_true rfl) ?_)
      | (refine sl_f5 ?_; refine sl_st rfl rfl rfl rfl sz_4 rfl rfl rfl (Nat.le_of_ble_eq_true rfl) ?_)
      | (refine sl_f6 ?_; refine sl_st rfl rfl rfl rfl sz_4 rfl rfl rfl (Nat.le_of_ble_eq_true rfl) ?_)
    refine sl_nil ?_
    refine sw_seq ?_
    refine sl_region ?_
    refine sl_mv rfl rfl rfl ?_
    refine sl_callf rfl rfl cal_82 (yint_ok q st1 c1 (.blk b2 [.val (.bool false), .val (.int .i64 0), .val (.int .i64 0)] :: .blk b3 [.val (.bool true), .val (.int .i64 0), .val (.int .i64 0)] :: σ) h1) ?_ ?_ ?_ (fun _ _ h => h.elim)
    · repeat (first | exact Weaks.nil | refine Weaks.cons (Weak.junk _) ?_ | refine Weaks.cons (Weak.refl _) ?_ | refine Weaks.cons (Weak.toV rfl) ?_ | refine Weaks.cons (Weak.ref _) ?_ | refine Weaks.cons (Weak.rp_agg _) ?_)
    · repeat (first | exact Sub.refl _ | exact Sub.none _ | refine Sub.p0 ?_ | refine Sub.p1 ?_ | refine Sub.p2 ?_ | refine Sub.p3 ?_ | refine Sub.p4 ?_ | refine Sub.p5 ?_ | refine Sub.p6 ?_ | refine Sub.drop ?_)
    rintro _ _ ⟨rfl, c2, h2, rfl⟩
    first
      | refine sl_fieldAddr_ptr rfl rfl rfl fo_69_1 ?_
      | refine sl_fieldAddr_rp rfl rfl rfl fo_69_1 ?_
      | refine sl_fieldAddr_ref rfl rfl rfl fo_69_1 ?_
    first
      | refine sl_st rfl rfl rfl rfl sz_2 rfl rfl rfl (Nat.le_of_ble_eq_true rfl) ?_
      | (refine sl_f1 ?_; refine sl_st rfl rfl rfl rfl sz_2 rfl rfl rfl (Nat.le_of_ble_eq_true rfl) ?_)
      | (refine sl_f2 ?_; refine sl_st rfl rfl rfl rfl sz_2 rfl rfl rfl (Nat.le_of_ble_eq_true rfl) ?_)
      | (refine sl_f3 ?_; refine sl_st rfl rfl rfl rfl sz_2 rfl rfl rfl (Nat.le_of_ble_eq_true rfl) ?_)
      | (refine sl_f4 ?_; refine sl_st rfl rfl rfl rfl sz_2 rfl rfl rfl (Nat.le_of_ble_eq_true rfl) ?_)
      | (refine sl_f5 ?_; refine sl_st rfl rfl rfl rfl sz_2 rfl rfl rfl (Nat.le_of_ble_eq_true rfl) ?_)
      | (refine sl_f6 ?_; refine sl_st rfl rfl rfl rfl sz_2 rfl rfl rfl (Nat.le_of_ble_eq_true rfl) ?_)
    refine sl_nil ?_
    refine sl_region ?_
    refine sl_mv rfl rfl rfl ?_
    refine sl_callf rfl rfl cal_82 (yint_ok q (rdOf decI 0 st1).2 c2 (.blk b2 [.val (.bool false), .val (.int .i64 0), .val (.int .i64 0)] :: .blk b3 [.val (.bool true), .val (i64V (rdOf decI 0 st1).1), .val (.int .i64 0)] :: σ) h2) ?_ ?_ ?_ (fun _ _ h => h.elim)
    · repeat (first | exact Weaks.nil | refine Weaks.cons (Weak.junk _) ?_ | refine Weaks.cons (Weak.refl _) ?_ | refine Weaks.cons (Weak.toV rfl) ?_ | refine Weaks.cons (Weak.ref _) ?_ | refine Weaks.cons (Weak.rp_agg _) ?_)
    · repeat (first | exact Sub.refl _ | exact Sub.none _ | refine Sub.p0 ?_ | refine Sub.p1 ?_ | refine Sub.p2 ?_ | refine Sub.p3 ?_ | refine Sub.p4 ?_ | refine Sub.p5 ?_ | refine Sub.p6 ?_ | refine Sub.drop ?_)
    rintro _ _ ⟨rfl, c3, h3, rfl⟩
    first
      | refine sl_fieldAddr_ptr rfl rfl rfl fo_69_2 ?_
      | refine sl_fieldAddr_rp rfl rfl rfl fo_69_2 ?_
      | refine sl_fieldAddr_ref rfl rfl rfl fo_69_2 ?_
    first
      | refine sl_st rfl rfl rfl rfl sz_2 rfl rfl rfl (Nat.le_of_ble_eq_true rfl) ?_
      | (refine sl_f1 ?_; refine sl_st rfl rfl rfl rfl sz_2 rfl rfl rfl (Nat.le_of_ble_eq_true rfl) ?_)
      | (refine sl_f2 ?_; refine sl_st rfl rfl rfl rfl sz_2 rfl rfl rfl (Nat.le_of_ble_eq_true rfl) ?_)
      | (refine sl_f3 ?_; refine sl_st rfl rfl rfl rfl sz_2 rfl rfl rfl (Nat.le_of_ble_eq_true rfl) ?_)
      | (refine sl_f4 ?_; refine sl_st rfl rfl rfl rfl sz_2 rfl rfl rfl (Nat.le_of_ble_eq_true rfl) ?_)
      | (refine sl_f5 ?_; refine sl_st rfl rfl rfl rfl sz_2 rfl rfl rfl (Nat.le_of_ble_eq_true rfl) ?_)
      | (refine sl_f6 ?_; refine sl_st rfl rfl rfl rfl sz_2 rfl rfl rfl (Nat.le_of_ble_eq_true rfl) ?_)
    refine sl_nil ?_
    refine sw_seq ?_
    refine sl_region ?_
    first
      | refine sl_load_rpn rfl rfl rfl ag_69 sz_69 (Nat.le_of_ble_eq_true rfl) ?_
      | refine sl_load_blkn rfl rfl rfl ag_69 sz_69 (by first | exact List.Mem.head _ | exact List.Mem.tail _ (List.Mem.head _) | exact List.Mem.tail _ (List.Mem.tail _ (List.Mem.head _)) | exact List.Mem.tail _ (List.Mem.tail _ (List.Mem.tail _ (List.Mem.head _))) | exact List.Mem.tail _ (List.Mem.tail _ (List.Mem.tail _ (List.Mem.tail _ (List.Mem.head _)))) | exact List.Mem.tail _ (List.Mem.tail _ (List.Mem.tail _ (List.Mem.tail _ (List.Mem.tail _ (List.Mem.head _)))))) (Nat.le_of_ble_eq_true rfl) ?_
      | refine sl_load_ref rfl rfl rfl ag_69 sz_69 (Nat.le_of_ble_eq_true rfl) ?_
    first
      | refine sl_st rfl rfl rfl rfl sz_69 rfl rfl rfl (Nat.le_of_ble_eq_true rfl) ?_
      | (refine sl_f1 ?_; refine sl_st rfl rfl rfl rfl sz_69 rfl rfl rfl (Nat.le_of_ble_eq_true rfl) ?_)
      | (refine sl_f2 ?_; refine sl_st rfl rfl rfl rfl sz_69 rfl rfl rfl (Nat.le_of_ble_eq_true rfl) ?_)
      | (refine sl_f3 ?_; refine sl_st rfl rfl rfl rfl sz_69 rfl rfl rfl (Nat.le_of_ble_eq_true rfl) ?_)
      | (refine sl_f4 ?_; refine sl_st rfl rfl rfl rfl sz_69 rfl rfl rfl (Nat.le_of_ble_eq_true rfl) ?_)
      | (refine sl_f5 ?_; refine sl_st rfl rfl rfl rfl sz_69 rfl rfl rfl (Nat.le_of_ble_eq_true rfl) ?_)
      | (refine sl_f6 ?_; refine sl_st rfl rfl rfl rfl sz_69 rfl rfl rfl (Nat.le_of_ble_eq_true rfl) ?_)
    refine sl_nil ?_
    refine sw_ret ⟨rfl, _, _, ResD.weak (res_celln rfl rfl ag_69 sz_69 (by first | exact List.Mem.head _ | exact List.Mem.tail _ (List.Mem.head _) | exact List.Mem.tail _ (List.Mem.tail _ (List.Mem.head _)) | exact List.Mem.tail _ (List.Mem.tail _ (List.Mem.tail _ (List.Mem.head _))) | exact List.Mem.tail _ (List.Mem.tail _ (List.Mem.tail _ (List.Mem.tail _ (List.Mem.head _)))) | exact List.Mem.tail _ (List.Mem.tail _ (List.Mem.tail _ (List.Mem.tail _ (List.Mem.tail _ (List.Mem.head _)))))) (Nat.le_of_ble_eq_true rfl)) ((Weak.toV rfl) ), ?_, ⟨⟨true, (rdOf decI 0 st1).1, (rdOf decI 0 (rdOf decI 0 st1).2).1⟩, _, c3, rfl, ival_true o1 o2 o3, h3, rfl⟩⟩
    repeat (first | exact Sub.refl _ | exact Sub.none _ | refine Sub.p0 ?_ | refine Sub.p1 ?_ | refine Sub.p2 ?_ | refine Sub.p3 ?_ | refine Sub.p4 ?_ | refine Sub.p5 ?_ | refine Sub.p6 ?_ | refine Sub.drop ?_)
  · obtain rfl : b = false := ht
    refine sw_skip ?_
    refine sw_seq ?_
    refine sl_region ?_
    first
      | refine sl_load_rpn rfl rfl rfl ag_69 sz_69 (Nat.le_of_ble_eq_true rfl) ?_
      | refine sl_load_blkn rfl rfl rfl ag_69 sz_69 (by first | exact List.Mem.head _ | exact List.Mem.tail _ (List.Mem.head _) | exact List.Mem.tail _ (List.Mem.tail _ (List.Mem.head _)) | exact List.Mem.tail _ (List.Mem.tail _ (List.Mem.tail _ (List.Mem.head _))) | exact List.Mem.tail _ (List.Mem.tail _ (List.Mem.tail _ (List.Mem.tail _ (List.Mem.head _)))) | exact List.Mem.tail _ (List.Mem.tail _ (List.Mem.tail _ (List.Mem.tail _ (List.Mem.tail _ (List.Mem.head _)))))) (Nat.le_of_ble_eq_true rfl) ?_
      | refine sl_load_ref rfl rfl rfl ag_69 sz_69 (Nat.le_of_ble_eq_true rfl) ?_
    first
      | refine sl_st rfl rfl rfl rfl sz_69 rfl rfl rfl (Nat.le_of_ble_eq_true rfl) ?_
      | (refine sl_f1 ?_; refine sl_st rfl rfl rfl rfl sz_69 rfl rfl rfl (Nat.le_of_ble_eq_true rfl) ?_)
      | (refine sl_f2 ?_; refine sl_st rfl rfl rfl rfl sz_69 rfl rfl rfl (Nat.le_of_ble_eq_true rfl) ?_)
      | (refine sl_f3 ?_; refine sl_st rfl rfl rfl rfl sz_69 rfl rfl rfl (Nat.le_of_ble_eq_true rfl) ?_)
      | (refine sl_f4 ?_; refine sl_st rfl rfl rfl rfl sz_69 rfl rfl rfl (Nat.le_of_ble_eq_true rfl) ?_)
      | (refine sl_f5 ?_; refine sl_st rfl rfl rfl rfl sz_69 rfl rfl rfl (Nat.le_of_ble_eq_true rfl) ?_)
      | (refine sl_f6 ?_; refine sl_st rfl rfl rfl rfl sz_69 rfl rfl rfl (Nat.le_of_ble_eq_true rfl) ?_)
    refine sl_nil ?_
    refine sw_ret ⟨rfl, _, _, ResD.weak (res_celln rfl rfl ag_69 sz_69 (by first | exact List.Mem.head _ | exact List.Mem.tail _ (List.Mem.head _) | exact List.Mem.tail _ (List.Mem.tail _ (List.Mem.head _)) | exact List.Mem.tail _ (List.Mem.tail _ (List.Mem.tail _ (List.Mem.head _))) | exact List.Mem.tail _ (List.Mem.tail _ (List.Mem.tail _ (List.Mem.tail _ (List.Mem.head _)))) | exact List.Mem.tail _ (List.Mem.tail _ (List.Mem.tail _ (List.Mem.tail _ (List.Mem.tail _ (List.Mem.head _)))))) (Nat.le_of_ble_eq_true rfl)) ((Weak.toV rfl) ), ?_, ⟨noIval, st1, c1, rfl, ival_false o1, h1, rfl⟩⟩
    repeat (first | exact Sub.refl _ | exact Sub.none _ | refine Sub.p0 ?_ | refine Sub.p1 ?_ | refine Sub.p2 ?_ | refine Sub.p3 ?_ | refine Sub.p4 ?_ | refine Sub.p5 ?_ | refine Sub.p6 ?_ | refine Sub.drop ?_)

/-- The document's reader: alarms. -/
theorem yalarms_ok (q : Nat) (st : Option (List UInt8)) (c : Chunk) (σ : List Chunk) (h : Rdr q st c) :
    FSpec Try.prog 86 [.ptr q 0] (c :: σ) (fun d σ' => ∃ al st' c', d = .val (.list (al.map almV)) ∧ Out decAl st al st' ∧ Rdr q st' c' ∧ σ' = c' :: σ) := by
  have o1 := out_rdOf (dec := decN 0) (z := 0) st
  obtain ⟨n, hn⟩ : ∃ b, b = (rdOf (decN 0) 0 st).1 := ⟨_, rfl⟩
  obtain ⟨st1, hst1⟩ : ∃ b, b = (rdOf (decN 0) 0 st).2 := ⟨_, rfl⟩
  have hlt := rdOf_lt (st := st)
  rw [← hn] at hlt
  rw [← hn, ← hst1] at o1
  refine spec_of_sw Try.func86 rfl ?_
  refine sw_seq ?_
  refine sl_region ?_
  refine sl_as rfl rfl rfl ?_
  refine sl_nil ?_
  refine sw_seq ?_
  refine sl_region ?_
  refine sl_mv rfl rfl rfl ?_
  refine sl_callf rfl rfl cal_40 (ynum_ok q st c σ h) ?_ ?_ ?_ (fun _ _ h => h.elim)
  · repeat (first | exact Weaks.nil | refine Weaks.cons (Weak.junk _) ?_ | refine Weaks.cons (Weak.refl _) ?_ | refine Weaks.cons (Weak.toV rfl) ?_ | refine Weaks.cons (Weak.ref _) ?_ | refine Weaks.cons (Weak.rp_agg _) ?_)
  · repeat (first | exact Sub.refl _ | exact Sub.none _ | refine Sub.p0 ?_ | refine Sub.p1 ?_ | refine Sub.p2 ?_ | refine Sub.p3 ?_ | refine Sub.p4 ?_ | refine Sub.p5 ?_ | refine Sub.p6 ?_ | refine Sub.drop ?_)
  rintro _ _ ⟨rfl, c1, h1, rfl⟩
  rw [← hst1] at h1
  rw [← hn]
  rcases st1 with _ | r
  · obtain ⟨r, rfl⟩ := h1
    refine sl_as rfl rfl rfl ?_
    refine sl_nil ?_
    refine sw_seq ?_
    refine sw_seq ?_
    refine sl_region ?_
    refine sl_mv rfl rfl rfl ?_
    refine sl_mv rfl rfl rfl ?_
    refine sl_nc rfl rfl rfl rfl ?_
    first
      | refine sl_fieldAddr_ptr rfl rfl rfl fo_80_0 ?_
      | refine sl_fieldAddr_rp rfl rfl rfl fo_80_0 ?_
      | refine sl_fieldAddr_ref rfl rfl rfl fo_80_0 ?_
    first
      | refine sl_load_rp1 rfl rfl rfl ag_26 rfl ?_
      | refine sl_load_blk1 rfl rfl rfl ag_26 (by first | exact List.Mem.head _ | exact List.Mem.tail _ (List.Mem.head _) | exact List.Mem.tail _ (List.Mem.tail _ (List.Mem.head _)) | exact List.Mem.tail _ (List.Mem.tail _ (List.Mem.tail _ (List.Mem.head _))) | exact List.Mem.tail _ (List.Mem.tail _ (List.Mem.tail _ (List.Mem.tail _ (List.Mem.head _)))) | exact List.Mem.tail _ (List.Mem.tail _ (List.Mem.tail _ (List.Mem.tail _ (List.Mem.tail _ (List.Mem.head _)))))) rfl ?_
    first
      | refine sl_len rfl rfl rfl ⟨_, u_26⟩ ?_
      | refine sl_len_sl rfl rfl rfl ⟨_, u_26⟩ ?_
    refine sl_conv_int rfl rfl rfl is_3 u_37 ?_
    refine sl_bin rfl rfl rfl rfl rfl ?_
    refine sl_nil ?_
    refine sw_cond rfl (fun hg => ?_) (fun hg => ?_)
    · refine sl_region ?_
      refine sl_mv rfl rfl rfl ?_
      refine sl_nc rfl rfl rfl rfl ?_
      first
        | refine sl_fieldAddr_ptr rfl rfl rfl fo_80_1 ?_
        | refine sl_fieldAddr_rp rfl rfl rfl fo_80_1 ?_
        | refine sl_fieldAddr_ref rfl rfl rfl fo_80_1 ?_
      first
        | refine sl_st rfl rfl rfl rfl sz_4 rfl rfl rfl (Nat.le_of_ble_eq_true rfl) ?_
        | (refine sl_f1 ?_; refine sl_st rfl rfl rfl rfl sz_4 rfl rfl rfl (Nat.le_of_ble_eq_true rfl) ?_)
        | (refine sl_f2 ?_; refine sl_st rfl rfl rfl rfl sz_4 rfl rfl rfl (Nat.le_of_ble_eq_true rfl) ?_)
        | (refine sl_f3 ?_; refine sl_st rfl rfl rfl rfl sz_4 rfl rfl rfl (Nat.le_of_ble_eq_true rfl) ?_)
        | (refine sl_f4 ?_; refine sl_st rfl rfl rfl rfl sz_4 rfl rfl rfl (Nat.le_of_ble_eq_true rfl) ?_)
        | (refine sl_f5 ?_; refine sl_st rfl rfl rfl rfl sz_4 rfl rfl rfl (Nat.le_of_ble_eq_true rfl) ?_)
        | (refine sl_f6 ?_; refine sl_st rfl rfl rfl rfl sz_4 rfl rfl rfl (Nat.le_of_ble_eq_true rfl) ?_)
      refine sl_nil ?_
      refine sw_seq ?_
      refine sl_region ?_
      refine sl_as rfl rfl rfl ?_
      refine sl_nil ?_
      refine sw_seq ?_
      refine sw_seq ?_
      refine sl_region ?_
      refine sl_as rfl rfl rfl ?_
      refine sl_nil ?_
      refine sw_block ?_
      refine sw_loopw (fun nX sX δX σX => ∃ (j : Nat), (1) = nX ∧ sX = ⟨48, (.cons 0 (.ptr q 0) (.cons 3 (.val (u64V n)) (.cons 5 (.val (.int .u64 (j : Int))) .nil)))⟩ ∧ δX = [] ∧ σX = rd q r true :: σ) ?_ ?_
      · refine ⟨_, _, _, ?_, ?_, 0, rfl, rfl, rfl, rfl⟩
        · refine ⟨rfl, ?_⟩; repeat (first | exact WkL.nil | refine WkL.cons (Weak.refl _) ?_ | refine WkL.cons (Weak.toV rfl) ?_ | refine WkL.cons (Weak.ref _) ?_ | refine WkL.cons (Weak.rp_agg _) ?_)
        · repeat (first | exact Sub.refl _ | exact Sub.none _ | refine Sub.p0 ?_ | refine Sub.p1 ?_ | refine Sub.p2 ?_ | refine Sub.p3 ?_ | refine Sub.p4 ?_ | refine Sub.p5 ?_ | refine Sub.p6 ?_ | refine Sub.drop ?_)
      · rintro nX sX δX σX ⟨j, rfl, rfl, rfl, rfl⟩
        refine sw_seq ?_
        refine sw_seq ?_
        refine sl_region ?_
        refine sl_mv rfl rfl rfl ?_
        refine sl_mv rfl rfl rfl ?_
        refine sl_bin rfl rfl rfl rfl rfl ?_
        refine sl_mv rfl rfl rfl ?_
        refine sl_case_at 24 rfl (fun hj => ?_) (fun hj => ?_)
        · refine sl_guard_y rfl rfl rfl hj ?_
          refine sl_mv rfl rfl rfl ?_
          refine sl_guard_y rfl rfl rfl hj ?_
          refine sl_nc rfl rfl rfl rfl ?_
          refine sl_guard_y rfl rfl rfl hj ?_
          first
            | refine sl_fieldAddr_ptr rfl rfl rfl fo_80_1 ?_
            | refine sl_fieldAddr_rp rfl rfl rfl fo_80_1 ?_
            | refine sl_fieldAddr_ref rfl rfl rfl fo_80_1 ?_
          refine sl_guard_y rfl rfl rfl hj ?_
          first
            | refine sl_load_rp1 rfl rfl rfl ag_4 rfl ?_
            | refine sl_load_blk1 rfl rfl rfl ag_4 (by first | exact List.Mem.head _ | exact List.Mem.tail _ (List.Mem.head _) | exact List.Mem.tail _ (List.Mem.tail _ (List.Mem.head _)) | exact List.Mem.tail _ (List.Mem.tail _ (List.Mem.tail _ (List.Mem.head _))) | exact List.Mem.tail _ (List.Mem.tail _ (List.Mem.tail _ (List.Mem.tail _ (List.Mem.head _)))) | exact List.Mem.tail _ (List.Mem.tail _ (List.Mem.tail _ (List.Mem.tail _ (List.Mem.tail _ (List.Mem.head _)))))) rfl ?_
          refine sl_guard_y rfl rfl rfl hj ?_
          refine sl_not rfl rfl rfl ?_
          refine sl_pk_t rfl rfl rfl hj rfl ?_
          refine sl_nil ?_
          refine sw_false rfl (rfl) ?_
          refine sw_exit ?_
          refine sw_seq ?_
          refine sw_seq ?_
          refine sl_region ?_
          refine sl_mv rfl rfl rfl ?_
          refine sl_nc rfl rfl rfl rfl ?_
          first
            | refine sl_fieldAddr_ptr rfl rfl rfl fo_80_1 ?_
            | refine sl_fieldAddr_rp rfl rfl rfl fo_80_1 ?_
            | refine sl_fieldAddr_ref rfl rfl rfl fo_80_1 ?_
          first
            | refine sl_load_rp1 rfl rfl rfl ag_4 rfl ?_
            | refine sl_load_blk1 rfl rfl rfl ag_4 (by first | exact List.Mem.head _ | exact List.Mem.tail _ (List.Mem.head _) | exact List.Mem.tail _ (List.Mem.tail _ (List.Mem.head _)) | exact List.Mem.tail _ (List.Mem.tail _ (List.Mem.tail _ (List.Mem.head _))) | exact List.Mem.tail _ (List.Mem.tail _ (List.Mem.tail _ (List.Mem.tail _ (List.Mem.head _)))) | exact List.Mem.tail _ (List.Mem.tail _ (List.Mem.tail _ (List.Mem.tail _ (List.Mem.tail _ (List.Mem.head _)))))) rfl ?_
          refine sl_nil ?_
          refine sw_true rfl (rfl) ?_
          refine sw_seq ?_
          refine sl_region ?_
          refine sl_as rfl rfl rfl ?_
          refine sl_nil ?_
          refine sw_ret ⟨rfl, _, _, ResD.weak (res_one rfl rfl) ((Weak.toV rfl) ), ?_, ⟨[], none, _, rfl, al_none o1, ⟨r, rfl⟩, rfl⟩⟩
          repeat (first | exact Sub.refl _ | exact Sub.none _ | refine Sub.p0 ?_ | refine Sub.p1 ?_ | refine Sub.p2 ?_ | refine Sub.p3 ?_ | refine Sub.p4 ?_ | refine Sub.p5 ?_ | refine Sub.p6 ?_ | refine Sub.drop ?_)
        · refine sl_guard_n rfl rfl rfl hj ?_
          refine sl_guard_n rfl rfl rfl hj ?_
          refine sl_guard_n rfl rfl rfl hj ?_
          refine sl_guard_n rfl rfl rfl hj ?_
          refine sl_guard_n rfl rfl rfl hj ?_
          refine sl_pk_f rfl rfl rfl hj rfl ?_
          refine sl_nil ?_
          refine sw_false rfl (rfl) ?_
          refine sw_exit ?_
          refine sw_seq ?_
          refine sw_seq ?_
          refine sl_region ?_
          refine sl_mv rfl rfl rfl ?_
          refine sl_nc rfl rfl rfl rfl ?_
          first
            | refine sl_fieldAddr_ptr rfl rfl rfl fo_80_1 ?_
            | refine sl_fieldAddr_rp rfl rfl rfl fo_80_1 ?_
            | refine sl_fieldAddr_ref rfl rfl rfl fo_80_1 ?_
          first
            | refine sl_load_rp1 rfl rfl rfl ag_4 rfl ?_
            | refine sl_load_blk1 rfl rfl rfl ag_4 (by first | exact List.Mem.head _ | exact List.Mem.tail _ (List.Mem.head _) | exact List.Mem.tail _ (List.Mem.tail _ (List.Mem.head _)) | exact List.Mem.tail _ (List.Mem.tail _ (List.Mem.tail _ (List.Mem.head _))) | exact List.Mem.tail _ (List.Mem.tail _ (List.Mem.tail _ (List.Mem.tail _ (List.Mem.head _)))) | exact List.Mem.tail _ (List.Mem.tail _ (List.Mem.tail _ (List.Mem.tail _ (List.Mem.tail _ (List.Mem.head _)))))) rfl ?_
          refine sl_nil ?_
          refine sw_true rfl (rfl) ?_
          refine sw_seq ?_
          refine sl_region ?_
          refine sl_as rfl rfl rfl ?_
          refine sl_nil ?_
          refine sw_ret ⟨rfl, _, _, ResD.weak (res_one rfl rfl) ((Weak.toV rfl) ), ?_, ⟨[], none, _, rfl, al_none o1, ⟨r, rfl⟩, rfl⟩⟩
          repeat (first | exact Sub.refl _ | exact Sub.none _ | refine Sub.p0 ?_ | refine Sub.p1 ?_ | refine Sub.p2 ?_ | refine Sub.p3 ?_ | refine Sub.p4 ?_ | refine Sub.p5 ?_ | refine Sub.p6 ?_ | refine Sub.drop ?_)
    · refine sw_skip ?_
      refine sw_seq ?_
      refine sl_region ?_
      refine sl_as rfl rfl rfl ?_
      refine sl_nil ?_
      refine sw_seq ?_
      refine sw_seq ?_
      refine sl_region ?_
      refine sl_as rfl rfl rfl ?_
      refine sl_nil ?_
      refine sw_block ?_
      refine sw_loopw (fun nX sX δX σX => ∃ (j : Nat), (1) = nX ∧ sX = ⟨48, (.cons 0 (.ptr q 0) (.cons 3 (.val (u64V n)) (.cons 5 (.val (.int .u64 (j : Int))) .nil)))⟩ ∧ δX = [] ∧ σX = rd q r true :: σ) ?_ ?_
      · refine ⟨_, _, _, ?_, ?_, 0, rfl, rfl, rfl, rfl⟩
        · refine ⟨rfl, ?_⟩; repeat (first | exact WkL.nil | refine WkL.cons (Weak.refl _) ?_ | refine WkL.cons (Weak.toV rfl) ?_ | refine WkL.cons (Weak.ref _) ?_ | refine WkL.cons (Weak.rp_agg _) ?_)
        · repeat (first | exact Sub.refl _ | exact Sub.none _ | refine Sub.p0 ?_ | refine Sub.p1 ?_ | refine Sub.p2 ?_ | refine Sub.p3 ?_ | refine Sub.p4 ?_ | refine Sub.p5 ?_ | refine Sub.p6 ?_ | refine Sub.drop ?_)
      · rintro nX sX δX σX ⟨j, rfl, rfl, rfl, rfl⟩
        refine sw_seq ?_
        refine sw_seq ?_
        refine sl_region ?_
        refine sl_mv rfl rfl rfl ?_
        refine sl_mv rfl rfl rfl ?_
        refine sl_bin rfl rfl rfl rfl rfl ?_
        refine sl_mv rfl rfl rfl ?_
        refine sl_case_at 24 rfl (fun hj => ?_) (fun hj => ?_)
        · refine sl_guard_y rfl rfl rfl hj ?_
          refine sl_mv rfl rfl rfl ?_
          refine sl_guard_y rfl rfl rfl hj ?_
          refine sl_nc rfl rfl rfl rfl ?_
          refine sl_guard_y rfl rfl rfl hj ?_
          first
            | refine sl_fieldAddr_ptr rfl rfl rfl fo_80_1 ?_
            | refine sl_fieldAddr_rp rfl rfl rfl fo_80_1 ?_
            | refine sl_fieldAddr_ref rfl rfl rfl fo_80_1 ?_
          refine sl_guard_y rfl rfl rfl hj ?_
          first
            | refine sl_load_rp1 rfl rfl rfl ag_4 rfl ?_
            | refine sl_load_blk1 rfl rfl rfl ag_4 (by first | exact List.Mem.head _ | exact List.Mem.tail _ (List.Mem.head _) | exact List.Mem.tail _ (List.Mem.tail _ (List.Mem.head _)) | exact List.Mem.tail _ (List.Mem.tail _ (List.Mem.tail _ (List.Mem.head _))) | exact List.Mem.tail _ (List.Mem.tail _ (List.Mem.tail _ (List.Mem.tail _ (List.Mem.head _)))) | exact List.Mem.tail _ (List.Mem.tail _ (List.Mem.tail _ (List.Mem.tail _ (List.Mem.tail _ (List.Mem.head _)))))) rfl ?_
          refine sl_guard_y rfl rfl rfl hj ?_
          refine sl_not rfl rfl rfl ?_
          refine sl_pk_t rfl rfl rfl hj rfl ?_
          refine sl_nil ?_
          refine sw_false rfl (rfl) ?_
          refine sw_exit ?_
          refine sw_seq ?_
          refine sw_seq ?_
          refine sl_region ?_
          refine sl_mv rfl rfl rfl ?_
          refine sl_nc rfl rfl rfl rfl ?_
          first
            | refine sl_fieldAddr_ptr rfl rfl rfl fo_80_1 ?_
            | refine sl_fieldAddr_rp rfl rfl rfl fo_80_1 ?_
            | refine sl_fieldAddr_ref rfl rfl rfl fo_80_1 ?_
          first
            | refine sl_load_rp1 rfl rfl rfl ag_4 rfl ?_
            | refine sl_load_blk1 rfl rfl rfl ag_4 (by first | exact List.Mem.head _ | exact List.Mem.tail _ (List.Mem.head _) | exact List.Mem.tail _ (List.Mem.tail _ (List.Mem.head _)) | exact List.Mem.tail _ (List.Mem.tail _ (List.Mem.tail _ (List.Mem.head _))) | exact List.Mem.tail _ (List.Mem.tail _ (List.Mem.tail _ (List.Mem.tail _ (List.Mem.head _)))) | exact List.Mem.tail _ (List.Mem.tail _ (List.Mem.tail _ (List.Mem.tail _ (List.Mem.tail _ (List.Mem.head _)))))) rfl ?_
          refine sl_nil ?_
          refine sw_true rfl (rfl) ?_
          refine sw_seq ?_
          refine sl_region ?_
          refine sl_as rfl rfl rfl ?_
          refine sl_nil ?_
          refine sw_ret ⟨rfl, _, _, ResD.weak (res_one rfl rfl) ((Weak.toV rfl) ), ?_, ⟨[], none, _, rfl, al_none o1, ⟨r, rfl⟩, rfl⟩⟩
          repeat (first | exact Sub.refl _ | exact Sub.none _ | refine Sub.p0 ?_ | refine Sub.p1 ?_ | refine Sub.p2 ?_ | refine Sub.p3 ?_ | refine Sub.p4 ?_ | refine Sub.p5 ?_ | refine Sub.p6 ?_ | refine Sub.drop ?_)
        · refine sl_guard_n rfl rfl rfl hj ?_
          refine sl_guard_n rfl rfl rfl hj ?_
          refine sl_guard_n rfl rfl rfl hj ?_
          refine sl_guard_n rfl rfl rfl hj ?_
          refine sl_guard_n rfl rfl rfl hj ?_
          refine sl_pk_f rfl rfl rfl hj rfl ?_
          refine sl_nil ?_
          refine sw_false rfl (rfl) ?_
          refine sw_exit ?_
          refine sw_seq ?_
          refine sw_seq ?_
          refine sl_region ?_
          refine sl_mv rfl rfl rfl ?_
          refine sl_nc rfl rfl rfl rfl ?_
          first
            | refine sl_fieldAddr_ptr rfl rfl rfl fo_80_1 ?_
            | refine sl_fieldAddr_rp rfl rfl rfl fo_80_1 ?_
            | refine sl_fieldAddr_ref rfl rfl rfl fo_80_1 ?_
          first
            | refine sl_load_rp1 rfl rfl rfl ag_4 rfl ?_
            | refine sl_load_blk1 rfl rfl rfl ag_4 (by first | exact List.Mem.head _ | exact List.Mem.tail _ (List.Mem.head _) | exact List.Mem.tail _ (List.Mem.tail _ (List.Mem.head _)) | exact List.Mem.tail _ (List.Mem.tail _ (List.Mem.tail _ (List.Mem.head _))) | exact List.Mem.tail _ (List.Mem.tail _ (List.Mem.tail _ (List.Mem.tail _ (List.Mem.head _)))) | exact List.Mem.tail _ (List.Mem.tail _ (List.Mem.tail _ (List.Mem.tail _ (List.Mem.tail _ (List.Mem.head _)))))) rfl ?_
          refine sl_nil ?_
          refine sw_true rfl (rfl) ?_
          refine sw_seq ?_
          refine sl_region ?_
          refine sl_as rfl rfl rfl ?_
          refine sl_nil ?_
          refine sw_ret ⟨rfl, _, _, ResD.weak (res_one rfl rfl) ((Weak.toV rfl) ), ?_, ⟨[], none, _, rfl, al_none o1, ⟨r, rfl⟩, rfl⟩⟩
          repeat (first | exact Sub.refl _ | exact Sub.none _ | refine Sub.p0 ?_ | refine Sub.p1 ?_ | refine Sub.p2 ?_ | refine Sub.p3 ?_ | refine Sub.p4 ?_ | refine Sub.p5 ?_ | refine Sub.p6 ?_ | refine Sub.drop ?_)
  · obtain ⟨rfl, hr⟩ := h1
    refine sl_as rfl rfl rfl ?_
    refine sl_nil ?_
    refine sw_seq ?_
    refine sw_seq ?_
    refine sl_region ?_
    refine sl_mv rfl rfl rfl ?_
    refine sl_mv rfl rfl rfl ?_
    refine sl_nc rfl rfl rfl rfl ?_
    first
      | refine sl_fieldAddr_ptr rfl rfl rfl fo_80_0 ?_
      | refine sl_fieldAddr_rp rfl rfl rfl fo_80_0 ?_
      | refine sl_fieldAddr_ref rfl rfl rfl fo_80_0 ?_
    first
      | refine sl_load_rp1 rfl rfl rfl ag_26 rfl ?_
      | refine sl_load_blk1 rfl rfl rfl ag_26 (by first | exact List.Mem.head _ | exact List.Mem.tail _ (List.Mem.head _) | exact List.Mem.tail _ (List.Mem.tail _ (List.Mem.head _)) | exact List.Mem.tail _ (List.Mem.tail _ (List.Mem.tail _ (List.Mem.head _))) | exact List.Mem.tail _ (List.Mem.tail _ (List.Mem.tail _ (List.Mem.tail _ (List.Mem.head _)))) | exact List.Mem.tail _ (List.Mem.tail _ (List.Mem.tail _ (List.Mem.tail _ (List.Mem.tail _ (List.Mem.head _)))))) rfl ?_
    first
      | refine sl_len rfl rfl rfl ⟨_, u_26⟩ ?_
      | refine sl_len_sl rfl rfl rfl ⟨_, u_26⟩ ?_
    refine sl_conv_int rfl rfl rfl is_3 u_37 ?_
    refine sl_set 16 (.val (.int .u64 (r.length : Int))) (len_u64 hr) ?_
    refine sl_bin rfl rfl rfl rfl rfl ?_
    refine sl_nil ?_
    refine sw_cond rfl (fun hg => ?_) (fun hg => ?_)
    · have hg : ¬ n ≤ r.length := by have := of_decide_eq_true hg; omega
      refine sl_region ?_
      refine sl_mv rfl rfl rfl ?_
      refine sl_nc rfl rfl rfl rfl ?_
      first
        | refine sl_fieldAddr_ptr rfl rfl rfl fo_80_1 ?_
        | refine sl_fieldAddr_rp rfl rfl rfl fo_80_1 ?_
        | refine sl_fieldAddr_ref rfl rfl rfl fo_80_1 ?_
      first
        | refine sl_st rfl rfl rfl rfl sz_4 rfl rfl rfl (Nat.le_of_ble_eq_true rfl) ?_
        | (refine sl_f1 ?_; refine sl_st rfl rfl rfl rfl sz_4 rfl rfl rfl (Nat.le_of_ble_eq_true rfl) ?_)
        | (refine sl_f2 ?_; refine sl_st rfl rfl rfl rfl sz_4 rfl rfl rfl (Nat.le_of_ble_eq_true rfl) ?_)
        | (refine sl_f3 ?_; refine sl_st rfl rfl rfl rfl sz_4 rfl rfl rfl (Nat.le_of_ble_eq_true rfl) ?_)
        | (refine sl_f4 ?_; refine sl_st rfl rfl rfl rfl sz_4 rfl rfl rfl (Nat.le_of_ble_eq_true rfl) ?_)
        | (refine sl_f5 ?_; refine sl_st rfl rfl rfl rfl sz_4 rfl rfl rfl (Nat.le_of_ble_eq_true rfl) ?_)
        | (refine sl_f6 ?_; refine sl_st rfl rfl rfl rfl sz_4 rfl rfl rfl (Nat.le_of_ble_eq_true rfl) ?_)
      refine sl_nil ?_
      refine sw_seq ?_
      refine sl_region ?_
      refine sl_as rfl rfl rfl ?_
      refine sl_nil ?_
      refine sw_seq ?_
      refine sw_seq ?_
      refine sl_region ?_
      refine sl_as rfl rfl rfl ?_
      refine sl_nil ?_
      refine sw_block ?_
      refine sw_loopw (fun nX sX δX σX => ∃ (j : Nat), (1) = nX ∧ sX = ⟨48, (.cons 0 (.ptr q 0) (.cons 3 (.val (u64V n)) (.cons 5 (.val (.int .u64 (j : Int))) .nil)))⟩ ∧ δX = [] ∧ σX = rd q r true :: σ) ?_ ?_
      · refine ⟨_, _, _, ?_, ?_, 0, rfl, rfl, rfl, rfl⟩
        · refine ⟨rfl, ?_⟩; repeat (first | exact WkL.nil | refine WkL.cons (Weak.refl _) ?_ | refine WkL.cons (Weak.toV rfl) ?_ | refine WkL.cons (Weak.ref _) ?_ | refine WkL.cons (Weak.rp_agg _) ?_)
        · repeat (first | exact Sub.refl _ | exact Sub.none _ | refine Sub.p0 ?_ | refine Sub.p1 ?_ | refine Sub.p2 ?_ | refine Sub.p3 ?_ | refine Sub.p4 ?_ | refine Sub.p5 ?_ | refine Sub.p6 ?_ | refine Sub.drop ?_)
      · rintro nX sX δX σX ⟨j, rfl, rfl, rfl, rfl⟩
        refine sw_seq ?_
        refine sw_seq ?_
        refine sl_region ?_
        refine sl_mv rfl rfl rfl ?_
        refine sl_mv rfl rfl rfl ?_
        refine sl_bin rfl rfl rfl rfl rfl ?_
        refine sl_mv rfl rfl rfl ?_
        refine sl_case_at 24 rfl (fun hj => ?_) (fun hj => ?_)
        · refine sl_guard_y rfl rfl rfl hj ?_
          refine sl_mv rfl rfl rfl ?_
          refine sl_guard_y rfl rfl rfl hj ?_
          refine sl_nc rfl rfl rfl rfl ?_
          refine sl_guard_y rfl rfl rfl hj ?_
          first
            | refine sl_fieldAddr_ptr rfl rfl rfl fo_80_1 ?_
            | refine sl_fieldAddr_rp rfl rfl rfl fo_80_1 ?_
            | refine sl_fieldAddr_ref rfl rfl rfl fo_80_1 ?_
          refine sl_guard_y rfl rfl rfl hj ?_
          first
            | refine sl_load_rp1 rfl rfl rfl ag_4 rfl ?_
            | refine sl_load_blk1 rfl rfl rfl ag_4 (by first | exact List.Mem.head _ | exact List.Mem.tail _ (List.Mem.head _) | exact List.Mem.tail _ (List.Mem.tail _ (List.Mem.head _)) | exact List.Mem.tail _ (List.Mem.tail _ (List.Mem.tail _ (List.Mem.head _))) | exact List.Mem.tail _ (List.Mem.tail _ (List.Mem.tail _ (List.Mem.tail _ (List.Mem.head _)))) | exact List.Mem.tail _ (List.Mem.tail _ (List.Mem.tail _ (List.Mem.tail _ (List.Mem.tail _ (List.Mem.head _)))))) rfl ?_
          refine sl_guard_y rfl rfl rfl hj ?_
          refine sl_not rfl rfl rfl ?_
          refine sl_pk_t rfl rfl rfl hj rfl ?_
          refine sl_nil ?_
          refine sw_false rfl (rfl) ?_
          refine sw_exit ?_
          refine sw_seq ?_
          refine sw_seq ?_
          refine sl_region ?_
          refine sl_mv rfl rfl rfl ?_
          refine sl_nc rfl rfl rfl rfl ?_
          first
            | refine sl_fieldAddr_ptr rfl rfl rfl fo_80_1 ?_
            | refine sl_fieldAddr_rp rfl rfl rfl fo_80_1 ?_
            | refine sl_fieldAddr_ref rfl rfl rfl fo_80_1 ?_
          first
            | refine sl_load_rp1 rfl rfl rfl ag_4 rfl ?_
            | refine sl_load_blk1 rfl rfl rfl ag_4 (by first | exact List.Mem.head _ | exact List.Mem.tail _ (List.Mem.head _) | exact List.Mem.tail _ (List.Mem.tail _ (List.Mem.head _)) | exact List.Mem.tail _ (List.Mem.tail _ (List.Mem.tail _ (List.Mem.head _))) | exact List.Mem.tail _ (List.Mem.tail _ (List.Mem.tail _ (List.Mem.tail _ (List.Mem.head _)))) | exact List.Mem.tail _ (List.Mem.tail _ (List.Mem.tail _ (List.Mem.tail _ (List.Mem.tail _ (List.Mem.head _)))))) rfl ?_
          refine sl_nil ?_
          refine sw_true rfl (rfl) ?_
          refine sw_seq ?_
          refine sl_region ?_
          refine sl_as rfl rfl rfl ?_
          refine sl_nil ?_
          refine sw_ret ⟨rfl, _, _, ResD.weak (res_one rfl rfl) ((Weak.toV rfl) ), ?_, ⟨[], none, _, rfl, al_great o1 hg, ⟨r, rfl⟩, rfl⟩⟩
          repeat (first | exact Sub.refl _ | exact Sub.none _ | refine Sub.p0 ?_ | refine Sub.p1 ?_ | refine Sub.p2 ?_ | refine Sub.p3 ?_ | refine Sub.p4 ?_ | refine Sub.p5 ?_ | refine Sub.p6 ?_ | refine Sub.drop ?_)
        · refine sl_guard_n rfl rfl rfl hj ?_
          refine sl_guard_n rfl rfl rfl hj ?_
          refine sl_guard_n rfl rfl rfl hj ?_
          refine sl_guard_n rfl rfl rfl hj ?_
          refine sl_guard_n rfl rfl rfl hj ?_
          refine sl_pk_f rfl rfl rfl hj rfl ?_
          refine sl_nil ?_
          refine sw_false rfl (rfl) ?_
          refine sw_exit ?_
          refine sw_seq ?_
          refine sw_seq ?_
          refine sl_region ?_
          refine sl_mv rfl rfl rfl ?_
          refine sl_nc rfl rfl rfl rfl ?_
          first
            | refine sl_fieldAddr_ptr rfl rfl rfl fo_80_1 ?_
            | refine sl_fieldAddr_rp rfl rfl rfl fo_80_1 ?_
            | refine sl_fieldAddr_ref rfl rfl rfl fo_80_1 ?_
          first
            | refine sl_load_rp1 rfl rfl rfl ag_4 rfl ?_
            | refine sl_load_blk1 rfl rfl rfl ag_4 (by first | exact List.Mem.head _ | exact List.Mem.tail _ (List.Mem.head _) | exact List.Mem.tail _ (List.Mem.tail _ (List.Mem.head _)) | exact List.Mem.tail _ (List.Mem.tail _ (List.Mem.tail _ (List.Mem.head _))) | exact List.Mem.tail _ (List.Mem.tail _ (List.Mem.tail _ (List.Mem.tail _ (List.Mem.head _)))) | exact List.Mem.tail _ (List.Mem.tail _ (List.Mem.tail _ (List.Mem.tail _ (List.Mem.tail _ (List.Mem.head _)))))) rfl ?_
          refine sl_nil ?_
          refine sw_true rfl (rfl) ?_
          refine sw_seq ?_
          refine sl_region ?_
          refine sl_as rfl rfl rfl ?_
          refine sl_nil ?_
          refine sw_ret ⟨rfl, _, _, ResD.weak (res_one rfl rfl) ((Weak.toV rfl) ), ?_, ⟨[], none, _, rfl, al_great o1 hg, ⟨r, rfl⟩, rfl⟩⟩
          repeat (first | exact Sub.refl _ | exact Sub.none _ | refine Sub.p0 ?_ | refine Sub.p1 ?_ | refine Sub.p2 ?_ | refine Sub.p3 ?_ | refine Sub.p4 ?_ | refine Sub.p5 ?_ | refine Sub.p6 ?_ | refine Sub.drop ?_)
    · have hg : n ≤ r.length := by have := of_decide_eq_false hg; omega
      refine sw_skip ?_
      refine sw_seq ?_
      refine sl_region ?_
      refine sl_as rfl rfl rfl ?_
      refine sl_nil ?_
      refine sw_seq ?_
      refine sw_seq ?_
      refine sw_own (t := 4) (sz := 2) rfl (fun e0 => ?_)
      refine sl_region ?_
      refine sl_as rfl rfl rfl ?_
      refine sl_nil ?_
      refine sw_block ?_
      refine sw_loopw (fun nX sX δX σX => ∃ (j : Nat) (v : Value) (al : List Alm) (st2 : Option (List UInt8)) (c2 : Chunk), (n - j) = nX ∧ sX = ⟨48, (.cons 0 (.ptr q 0) (.cons 3 (.val (u64V n)) (.cons 4 (.own v (al.map almV)) (.cons 5 (.val (.int .u64 (j : Int))) .nil))))⟩ ∧ δX = [] ∧ σX = c2 :: .spare v 2 :: σ ∧ j ≤ n ∧ Out (decMany decA j) (some r) al st2 ∧ Rdr q st2 c2 ∧ al.length ≤ j) ?_ ?_
      · refine ⟨_, _, _, ?_, ?_, 0, e0, [], some r, rd q r false, rfl, rfl, rfl, rfl, Nat.zero_le _, many_zero r, ⟨rfl, hr⟩, Nat.le_refl _⟩
        · refine ⟨rfl, ?_⟩; repeat (first | exact WkL.nil | refine WkL.cons (Weak.refl _) ?_ | refine WkL.cons (Weak.toV rfl) ?_ | refine WkL.cons (Weak.ref _) ?_ | refine WkL.cons (Weak.rp_agg _) ?_)
        · repeat (first | exact Sub.refl _ | exact Sub.none _ | refine Sub.p0 ?_ | refine Sub.p1 ?_ | refine Sub.p2 ?_ | refine Sub.p3 ?_ | refine Sub.p4 ?_ | refine Sub.p5 ?_ | refine Sub.p6 ?_ | refine Sub.drop ?_)
      · rintro nX sX δX σX ⟨j, v, al, st2, c2, rfl, rfl, rfl, rfl, hj0, hout, hrd, hal⟩
        rcases st2 with _ | r2
        · obtain ⟨r2, rfl⟩ := hrd
          refine sw_seq ?_
          refine sw_seq ?_
          refine sl_region ?_
          refine sl_mv rfl rfl rfl ?_
          refine sl_mv rfl rfl rfl ?_
          refine sl_bin rfl rfl rfl rfl rfl ?_
          refine sl_mv rfl rfl rfl ?_
          refine sl_case_at 24 rfl (fun hj => ?_) (fun hj => ?_)
          · refine sl_guard_y rfl rfl rfl hj ?_
            refine sl_mv rfl rfl rfl ?_
            refine sl_guard_y rfl rfl rfl hj ?_
            refine sl_nc rfl rfl rfl rfl ?_
            refine sl_guard_y rfl rfl rfl hj ?_
            first
              | refine sl_fieldAddr_ptr rfl rfl rfl fo_80_1 ?_
              | refine sl_fieldAddr_rp rfl rfl rfl fo_80_1 ?_
              | refine sl_fieldAddr_ref rfl rfl rfl fo_80_1 ?_
            refine sl_guard_y rfl rfl rfl hj ?_
            first
              | refine sl_load_rp1 rfl rfl rfl ag_4 rfl ?_
              | refine sl_load_blk1 rfl rfl rfl ag_4 (by first | exact List.Mem.head _ | exact List.Mem.tail _ (List.Mem.head _) | exact List.Mem.tail _ (List.Mem.tail _ (List.Mem.head _)) | exact List.Mem.tail _ (List.Mem.tail _ (List.Mem.tail _ (List.Mem.head _))) | exact List.Mem.tail _ (List.Mem.tail _ (List.Mem.tail _ (List.Mem.tail _ (List.Mem.head _)))) | exact List.Mem.tail _ (List.Mem.tail _ (List.Mem.tail _ (List.Mem.tail _ (List.Mem.tail _ (List.Mem.head _)))))) rfl ?_
            refine sl_guard_y rfl rfl rfl hj ?_
            refine sl_not rfl rfl rfl ?_
            refine sl_pk_t rfl rfl rfl hj rfl ?_
            refine sl_nil ?_
            refine sw_false rfl (rfl) ?_
            refine sw_exit ?_
            refine sw_seq ?_
            refine sw_seq ?_
            refine sl_region ?_
            refine sl_mv rfl rfl rfl ?_
            refine sl_nc rfl rfl rfl rfl ?_
            first
              | refine sl_fieldAddr_ptr rfl rfl rfl fo_80_1 ?_
              | refine sl_fieldAddr_rp rfl rfl rfl fo_80_1 ?_
              | refine sl_fieldAddr_ref rfl rfl rfl fo_80_1 ?_
            first
              | refine sl_load_rp1 rfl rfl rfl ag_4 rfl ?_
              | refine sl_load_blk1 rfl rfl rfl ag_4 (by first | exact List.Mem.head _ | exact List.Mem.tail _ (List.Mem.head _) | exact List.Mem.tail _ (List.Mem.tail _ (List.Mem.head _)) | exact List.Mem.tail _ (List.Mem.tail _ (List.Mem.tail _ (List.Mem.head _))) | exact List.Mem.tail _ (List.Mem.tail _ (List.Mem.tail _ (List.Mem.tail _ (List.Mem.head _)))) | exact List.Mem.tail _ (List.Mem.tail _ (List.Mem.tail _ (List.Mem.tail _ (List.Mem.tail _ (List.Mem.head _)))))) rfl ?_
            refine sl_nil ?_
            refine sw_true rfl (rfl) ?_
            refine sw_seq ?_
            refine sl_region ?_
            refine sl_as rfl rfl rfl ?_
            refine sl_nil ?_
            refine sw_ret ⟨rfl, _, _, ResD.weak (res_one rfl rfl) ((Weak.toV rfl) ), ?_, ⟨[], none, _, rfl, al_some o1 hg (many_fail hout n hj0), ⟨r2, rfl⟩, rfl⟩⟩
            repeat (first | exact Sub.refl _ | exact Sub.none _ | refine Sub.p0 ?_ | refine Sub.p1 ?_ | refine Sub.p2 ?_ | refine Sub.p3 ?_ | refine Sub.p4 ?_ | refine Sub.p5 ?_ | refine Sub.p6 ?_ | refine Sub.drop ?_)
          · refine sl_guard_n rfl rfl rfl hj ?_
            refine sl_guard_n rfl rfl rfl hj ?_
            refine sl_guard_n rfl rfl rfl hj ?_
            refine sl_guard_n rfl rfl rfl hj ?_
            refine sl_guard_n rfl rfl rfl hj ?_
            refine sl_pk_f rfl rfl rfl hj rfl ?_
            refine sl_nil ?_
            refine sw_false rfl (rfl) ?_
            refine sw_exit ?_
            refine sw_seq ?_
            refine sw_seq ?_
            refine sl_region ?_
            refine sl_mv rfl rfl rfl ?_
            refine sl_nc rfl rfl rfl rfl ?_
            first
              | refine sl_fieldAddr_ptr rfl rfl rfl fo_80_1 ?_
              | refine sl_fieldAddr_rp rfl rfl rfl fo_80_1 ?_
              | refine sl_fieldAddr_ref rfl rfl rfl fo_80_1 ?_
            first
              | refine sl_load_rp1 rfl rfl rfl ag_4 rfl ?_
              | refine sl_load_blk1 rfl rfl rfl ag_4 (by first | exact List.Mem.head _ | exact List.Mem.tail _ (List.Mem.head _) | exact List.Mem.tail _ (List.Mem.tail _ (List.Mem.head _)) | exact List.Mem.tail _ (List.Mem.tail _ (List.Mem.tail _ (List.Mem.head _))) | exact List.Mem.tail _ (List.Mem.tail _ (List.Mem.tail _ (List.Mem.tail _ (List.Mem.head _)))) | exact List.Mem.tail _ (List.Mem.tail _ (List.Mem.tail _ (List.Mem.tail _ (List.Mem.tail _ (List.Mem.head _)))))) rfl ?_
            refine sl_nil ?_
            refine sw_true rfl (rfl) ?_
            refine sw_seq ?_
            refine sl_region ?_
            refine sl_as rfl rfl rfl ?_
            refine sl_nil ?_
            refine sw_ret ⟨rfl, _, _, ResD.weak (res_one rfl rfl) ((Weak.toV rfl) ), ?_, ⟨[], none, _, rfl, al_some o1 hg (many_fail hout n hj0), ⟨r2, rfl⟩, rfl⟩⟩
            repeat (first | exact Sub.refl _ | exact Sub.none _ | refine Sub.p0 ?_ | refine Sub.p1 ?_ | refine Sub.p2 ?_ | refine Sub.p3 ?_ | refine Sub.p4 ?_ | refine Sub.p5 ?_ | refine Sub.p6 ?_ | refine Sub.drop ?_)
        · obtain ⟨rfl, hr2⟩ := hrd
          refine sw_seq ?_
          refine sw_seq ?_
          refine sl_region ?_
          refine sl_mv rfl rfl rfl ?_
          refine sl_mv rfl rfl rfl ?_
          refine sl_bin rfl rfl rfl rfl rfl ?_
          refine sl_mv rfl rfl rfl ?_
          refine sl_case_at 24 rfl (fun hj => ?_) (fun hj => ?_)
          · have hj1 : j < n := by have := of_decide_eq_true hj; omega
            refine sl_guard_y rfl rfl rfl hj ?_
            refine sl_mv rfl rfl rfl ?_
            refine sl_guard_y rfl rfl rfl hj ?_
            refine sl_nc rfl rfl rfl rfl ?_
            refine sl_guard_y rfl rfl rfl hj ?_
            first
              | refine sl_fieldAddr_ptr rfl rfl rfl fo_80_1 ?_
              | refine sl_fieldAddr_rp rfl rfl rfl fo_80_1 ?_
              | refine sl_fieldAddr_ref rfl rfl rfl fo_80_1 ?_
            refine sl_guard_y rfl rfl rfl hj ?_
            first
              | refine sl_load_rp1 rfl rfl rfl ag_4 rfl ?_
              | refine sl_load_blk1 rfl rfl rfl ag_4 (by first | exact List.Mem.head _ | exact List.Mem.tail _ (List.Mem.head _) | exact List.Mem.tail _ (List.Mem.tail _ (List.Mem.head _)) | exact List.Mem.tail _ (List.Mem.tail _ (List.Mem.tail _ (List.Mem.head _))) | exact List.Mem.tail _ (List.Mem.tail _ (List.Mem.tail _ (List.Mem.tail _ (List.Mem.head _)))) | exact List.Mem.tail _ (List.Mem.tail _ (List.Mem.tail _ (List.Mem.tail _ (List.Mem.tail _ (List.Mem.head _)))))) rfl ?_
            refine sl_guard_y rfl rfl rfl hj ?_
            refine sl_not rfl rfl rfl ?_
            refine sl_pk_t rfl rfl rfl hj rfl ?_
            refine sl_nil ?_
            refine sw_true rfl (rfl) ?_
            have o2 := out_rdOf (dec := decS) (z := 0) (some r2)
            have o3 := out_rdOf (dec := decS) (z := 0) (rdOf decS 0 (some r2)).2
            refine sw_skip ?_
            refine sw_seq ?_
            refine sw_block ?_
            refine sw_seq ?_
            refine sl_region ?_
            refine sl_mv rfl rfl rfl ?_
            refine sl_callf rfl rfl cal_90 (ysmall_ok q (some r2) (rd q r2 false) (.spare v 2 :: σ) ⟨rfl, hr2⟩) ?_ ?_ ?_ (fun _ _ h => h.elim)
            · repeat (first | exact Weaks.nil | refine Weaks.cons (Weak.junk _) ?_ | refine Weaks.cons (Weak.refl _) ?_ | refine Weaks.cons (Weak.toV rfl) ?_ | refine Weaks.cons (Weak.ref _) ?_ | refine Weaks.cons (Weak.rp_agg _) ?_)
            · repeat (first | exact Sub.refl _ | exact Sub.none _ | refine Sub.p0 ?_ | refine Sub.p1 ?_ | refine Sub.p2 ?_ | refine Sub.p3 ?_ | refine Sub.p4 ?_ | refine Sub.p5 ?_ | refine Sub.p6 ?_ | refine Sub.drop ?_)
            rintro _ _ ⟨rfl, c3, h3, rfl⟩
            refine sl_as rfl rfl rfl ?_
            refine sl_nil ?_
            refine sw_seq ?_
            refine sl_region ?_
            refine sl_mv rfl rfl rfl ?_
            refine sl_callf rfl rfl cal_90 (ysmall_ok q (rdOf decS 0 (some r2)).2 c3 (.spare v 2 :: σ) h3) ?_ ?_ ?_ (fun _ _ h => h.elim)
            · repeat (first | exact Weaks.nil | refine Weaks.cons (Weak.junk _) ?_ | refine Weaks.cons (Weak.refl _) ?_ | refine Weaks.cons (Weak.toV rfl) ?_ | refine Weaks.cons (Weak.ref _) ?_ | refine Weaks.cons (Weak.rp_agg _) ?_)
            · repeat (first | exact Sub.refl _ | exact Sub.none _ | refine Sub.p0 ?_ | refine Sub.p1 ?_ | refine Sub.p2 ?_ | refine Sub.p3 ?_ | refine Sub.p4 ?_ | refine Sub.p5 ?_ | refine Sub.p6 ?_ | refine Sub.drop ?_)
            rintro _ _ ⟨rfl, c4, h4, rfl⟩
            refine sl_as rfl rfl rfl ?_
            refine sl_nil ?_
            refine sl_region ?_
            refine sl_mv rfl rfl rfl ?_
            refine sl_mv rfl rfl rfl ?_
            refine sl_mv rfl rfl rfl ?_
            refine sl_bd rfl rfl (.cons rfl (.cons rfl .nil)) bi_86 zd_86 rfl ?_
            refine sl_bsn ([almV ⟨(rdOf decS 0 (some r2)).1, (rdOf decS 0 (rdOf decS 0 (some r2)).2).1⟩]) rfl rfl (.cons rfl .nil) u_67 sz_86 zs_86 (by decide) rfl rfl rfl (by repeat (first | exact sized_nil | exact sized_map (fun _ => ⟨rfl, rfl⟩) | refine sized_cons rfl rfl ?_ | refine sized_append ?_ ?_ | assumption)) ?_
            first
              | refine sl_app rfl rfl rfl rfl u_67 ⟨_, u_67, rfl⟩ el_86 (by repeat (first | exact sized_nil | exact sized_map (fun _ => ⟨rfl, rfl⟩) | refine sized_cons rfl rfl ?_ | refine sized_append ?_ ?_ | assumption)) (by repeat (first | exact sized_nil | exact sized_map (fun _ => ⟨rfl, rfl⟩) | refine sized_cons rfl rfl ?_ | refine sized_append ?_ ?_ | assumption)) (by simp only [List.length_map, List.length_cons, List.length_nil]; omega) ((by rw [List.map_append]; rfl : _ = (al ++ [Alm.mk (rdOf decS 0 (some r2)).1 (rdOf decS 0 (rdOf decS 0 (some r2)).2).1]).map almV)) (fun v42 => ?_)
              | (refine sl_f1 ?_; refine sl_app rfl rfl rfl rfl u_67 ⟨_, u_67, rfl⟩ el_86 (by repeat (first | exact sized_nil | exact sized_map (fun _ => ⟨rfl, rfl⟩) | refine sized_cons rfl rfl ?_ | refine sized_append ?_ ?_ | assumption)) (by repeat (first | exact sized_nil | exact sized_map (fun _ => ⟨rfl, rfl⟩) | refine sized_cons rfl rfl ?_ | refine sized_append ?_ ?_ | assumption)) (by simp only [List.length_map, List.length_cons, List.length_nil]; omega) ((by rw [List.map_append]; rfl : _ = (al ++ [Alm.mk (rdOf decS 0 (some r2)).1 (rdOf decS 0 (rdOf decS 0 (some r2)).2).1]).map almV)) (fun v42 => ?_))
              | (refine sl_f2 ?_; refine sl_app rfl rfl rfl rfl u_67 ⟨_, u_67, rfl⟩ el_86 (by repeat (first | exact sized_nil | exact sized_map (fun _ => ⟨rfl, rfl⟩) | refine sized_cons rfl rfl ?_ | refine sized_append ?_ ?_ | assumption)) (by repeat (first | exact sized_nil | exact sized_map (fun _ => ⟨rfl, rfl⟩) | refine sized_cons rfl rfl ?_ | refine sized_append ?_ ?_ | assumption)) (by simp only [List.length_map, List.length_cons, List.length_nil]; omega) ((by rw [List.map_append]; rfl : _ = (al ++ [Alm.mk (rdOf decS 0 (some r2)).1 (rdOf decS 0 (rdOf decS 0 (some r2)).2).1]).map almV)) (fun v42 => ?_))
              | (refine sl_f3 ?_; refine sl_app rfl rfl rfl rfl u_67 ⟨_, u_67, rfl⟩ el_86 (by repeat (first | exact sized_nil | exact sized_map (fun _ => ⟨rfl, rfl⟩) | refine sized_cons rfl rfl ?_ | refine sized_append ?_ ?_ | assumption)) (by repeat (first | exact sized_nil | exact sized_map (fun _ => ⟨rfl, rfl⟩) | refine sized_cons rfl rfl ?_ | refine sized_append ?_ ?_ | assumption)) (by simp only [List.length_map, List.length_cons, List.length_nil]; omega) ((by rw [List.map_append]; rfl : _ = (al ++ [Alm.mk (rdOf decS 0 (some r2)).1 (rdOf decS 0 (rdOf decS 0 (some r2)).2).1]).map almV)) (fun v42 => ?_))
              | (refine sl_f4 ?_; refine sl_app rfl rfl rfl rfl u_67 ⟨_, u_67, rfl⟩ el_86 (by repeat (first | exact sized_nil | exact sized_map (fun _ => ⟨rfl, rfl⟩) | refine sized_cons rfl rfl ?_ | refine sized_append ?_ ?_ | assumption)) (by repeat (first | exact sized_nil | exact sized_map (fun _ => ⟨rfl, rfl⟩) | refine sized_cons rfl rfl ?_ | refine sized_append ?_ ?_ | assumption)) (by simp only [List.length_map, List.length_cons, List.length_nil]; omega) ((by rw [List.map_append]; rfl : _ = (al ++ [Alm.mk (rdOf decS 0 (some r2)).1 (rdOf decS 0 (rdOf decS 0 (some r2)).2).1]).map almV)) (fun v42 => ?_))
              | (refine sl_f5 ?_; refine sl_app rfl rfl rfl rfl u_67 ⟨_, u_67, rfl⟩ el_86 (by repeat (first | exact sized_nil | exact sized_map (fun _ => ⟨rfl, rfl⟩) | refine sized_cons rfl rfl ?_ | refine sized_append ?_ ?_ | assumption)) (by repeat (first | exact sized_nil | exact sized_map (fun _ => ⟨rfl, rfl⟩) | refine sized_cons rfl rfl ?_ | refine sized_append ?_ ?_ | assumption)) (by simp only [List.length_map, List.length_cons, List.length_nil]; omega) ((by rw [List.map_append]; rfl : _ = (al ++ [Alm.mk (rdOf decS 0 (some r2)).1 (rdOf decS 0 (rdOf decS 0 (some r2)).2).1]).map almV)) (fun v42 => ?_))
              | (refine sl_f6 ?_; refine sl_app rfl rfl rfl rfl u_67 ⟨_, u_67, rfl⟩ el_86 (by repeat (first | exact sized_nil | exact sized_map (fun _ => ⟨rfl, rfl⟩) | refine sized_cons rfl rfl ?_ | refine sized_append ?_ ?_ | assumption)) (by repeat (first | exact sized_nil | exact sized_map (fun _ => ⟨rfl, rfl⟩) | refine sized_cons rfl rfl ?_ | refine sized_append ?_ ?_ | assumption)) (by simp only [List.length_map, List.length_cons, List.length_nil]; omega) ((by rw [List.map_append]; rfl : _ = (al ++ [Alm.mk (rdOf decS 0 (some r2)).1 (rdOf decS 0 (rdOf decS 0 (some r2)).2).1]).map almV)) (fun v42 => ?_))
            refine sl_as rfl rfl rfl ?_
            refine sl_nil ?_
            refine sl_region ?_
            refine sl_mv rfl rfl rfl ?_
            refine sl_bin rfl rfl rfl rfl rfl ?_
            refine sl_set 32 (.val (.int .u64 ((j + 1 : Nat) : Int))) (congrArg (fun z => D.val (.int .u64 z)) (wrapped_u64 (j + 1) (by omega))) ?_
            refine sl_as rfl rfl rfl ?_
            refine sl_nil ?_
            refine ⟨_, by omega, _, _, ?_, ?_, j + 1, v42, _, (rdOf decS 0 (rdOf decS 0 (some r2)).2).2, c4, rfl, rfl, rfl, rfl, by omega, many_succ hout (out_alm o2 o3), h4, by rw [List.length_append]; simp; omega⟩
            · refine ⟨rfl, ?_⟩; repeat (first | exact WkL.nil | refine WkL.cons (Weak.refl _) ?_ | refine WkL.cons (Weak.toV rfl) ?_ | refine WkL.cons (Weak.ref _) ?_ | refine WkL.cons (Weak.rp_agg _) ?_)
            · repeat (first | exact Sub.refl _ | exact Sub.none _ | refine Sub.p0 ?_ | refine Sub.p1 ?_ | refine Sub.p2 ?_ | refine Sub.p3 ?_ | refine Sub.p4 ?_ | refine Sub.p5 ?_ | refine Sub.p6 ?_ | refine Sub.drop ?_)
          · have hj1 : j = n := by have := of_decide_eq_false hj; omega
            subst hj1
            refine sl_guard_n rfl rfl rfl hj ?_
            refine sl_guard_n rfl rfl rfl hj ?_
            refine sl_guard_n rfl rfl rfl hj ?_
            refine sl_guard_n rfl rfl rfl hj ?_
            refine sl_guard_n rfl rfl rfl hj ?_
            refine sl_pk_f rfl rfl rfl hj rfl ?_
            refine sl_nil ?_
            refine sw_false rfl (rfl) ?_
            refine sw_exit ?_
            refine sw_seq ?_
            refine sw_seq ?_
            refine sl_region ?_
            refine sl_mv rfl rfl rfl ?_
            refine sl_nc rfl rfl rfl rfl ?_
            first
              | refine sl_fieldAddr_ptr rfl rfl rfl fo_80_1 ?_
              | refine sl_fieldAddr_rp rfl rfl rfl fo_80_1 ?_
              | refine sl_fieldAddr_ref rfl rfl rfl fo_80_1 ?_
            first
              | refine sl_load_rp1 rfl rfl rfl ag_4 rfl ?_
              | refine sl_load_blk1 rfl rfl rfl ag_4 (by first | exact List.Mem.head _ | exact List.Mem.tail _ (List.Mem.head _) | exact List.Mem.tail _ (List.Mem.tail _ (List.Mem.head _)) | exact List.Mem.tail _ (List.Mem.tail _ (List.Mem.tail _ (List.Mem.head _))) | exact List.Mem.tail _ (List.Mem.tail _ (List.Mem.tail _ (List.Mem.tail _ (List.Mem.head _)))) | exact List.Mem.tail _ (List.Mem.tail _ (List.Mem.tail _ (List.Mem.tail _ (List.Mem.tail _ (List.Mem.head _)))))) rfl ?_
            refine sl_nil ?_
            refine sw_false rfl (rfl) ?_
            refine sw_skip ?_
            refine sw_seq ?_
            refine sl_region ?_
            refine sl_mv rfl rfl rfl ?_
            refine sl_as rfl rfl rfl ?_
            refine sl_nil ?_
            refine sw_ret ⟨rfl, _, _, ResD.weak (res_one rfl rfl) ((Weak.toV rfl) ), ?_, ⟨al, some r2, _, rfl, al_some o1 hg hout, ⟨rfl, hr2⟩, rfl⟩⟩
            repeat (first | exact Sub.refl _ | exact Sub.none _ | refine Sub.p0 ?_ | refine Sub.p1 ?_ | refine Sub.p2 ?_ | refine Sub.p3 ?_ | refine Sub.p4 ?_ | refine Sub.p5 ?_ | refine Sub.p6 ?_ | refine Sub.drop ?_)

end Go.Proofs.Ytioechdfghglhaa
