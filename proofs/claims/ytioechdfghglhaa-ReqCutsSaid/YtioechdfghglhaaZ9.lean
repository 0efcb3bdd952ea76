/- Merged: the program logic, plain laws and walks (each part's first row says what it is); no conditions of its own. -/
import Derived.Test.YtioechdfghglhaaZ4
import Derived.Test.YtioechdfghglhaaZ3
import Derived.Test.YtioechdfghglhaaZ8

/- Walks: printed by a program of this session out of its script ReqH. -/
namespace Go.Proofs.Ytioechdfghglhaa
set_option linter.unusedVariables false
set_option linter.unusedSimpArgs false
set_option maxRecDepth 4000
set_option maxHeartbeats 4000000
open Go Go.RowKit SL


/-- ReqReads. -/
theorem reqReads_ok (b : List UInt8) (r : Req) (at_ x : Int) (cut : Bool) (hr : ReqOk r) :
    FSpec Try.prog 11 [.val (.list (b.map byteV)), .val (reqV r), .val (i64V at_), .val (.int .u8 x), .val (.bool cut)] [] (fun d σ' => d = .val (.bool true) ∧ σ' = []) := by
  refine spec_of_sw Try.func11 rfl ?_
  refine sw_seq ?_
  refine sl_region ?_
  refine sl_bx_imm rfl rfl rfl rfl rfl ?_
  refine sl_as rfl rfl rfl ?_
  refine sl_nil ?_
  refine sw_seq ?_
  refine sw_seq ?_
  refine sl_region ?_
  refine sl_callf rfl rfl cal_48 (known24_ok []) ?_ ?_ ?_ (fun _ _ h => h.elim)
  · repeat constructor
  · repeat constructor
  rintro _ _ ⟨rfl, rfl⟩
  refine sl_not rfl rfl rfl ?_
  refine sl_nil ?_
  refine sw_false rfl (rfl) ?_
  refine sw_skip ?_
  refine sw_seq ?_
  refine sw_seq ?_
  refine sl_region ?_
  refine sl_mv rfl rfl rfl ?_
  first
    | refine sl_len rfl rfl rfl ⟨_, u_26⟩ ?_
    | refine sl_len_sl rfl rfl rfl ⟨_, u_26⟩ ?_
    | refine sl_len_w _ rfl rfl rfl ⟨_, u_26⟩ ?_
  refine sl_bin rfl rfl rfl rfl rfl ?_
  refine sl_mv rfl rfl rfl ?_
  refine sl_case_at 28 rfl (fun g1 => ?_) (fun g1 => ?_)
  · refine sl_guard_n rfl rfl rfl g1 ?_
    refine sl_guard_n rfl rfl rfl g1 ?_
    refine sl_guard_n rfl rfl rfl g1 ?_
    refine sl_guard_n rfl rfl rfl g1 ?_
    refine sl_pk_t rfl rfl rfl g1 rfl ?_
    refine sl_mv rfl rfl rfl ?_
    refine sl_guard_n rfl rfl rfl (rfl) ?_
    refine sl_guard_n rfl rfl rfl (rfl) ?_
    refine sl_guard_n rfl rfl rfl (rfl) ?_
    refine sl_guard_n rfl rfl rfl (rfl) ?_
    refine sl_pk_t rfl rfl rfl (rfl) rfl ?_
    refine sl_nil ?_
    refine sw_true rfl (rfl) ?_
    refine sw_seq ?_
    refine sl_region ?_
    refine sl_as rfl rfl rfl ?_
    refine sl_nil ?_
    refine sw_ret ⟨rfl, _, _, res_one rfl rfl, ?_, ⟨rfl, rfl⟩⟩
    repeat constructor
  refine sl_guard_y rfl rfl rfl g1 ?_
  first
    | refine sl_fieldAddr_ptr rfl rfl rfl fo_89_1 ?_
    | refine sl_fieldAddr_rp rfl rfl rfl fo_89_1 ?_
    | refine sl_fieldAddr_ref rfl rfl rfl fo_89_1 ?_
  refine sl_guard_y rfl rfl rfl g1 ?_
  first
    | refine sl_load_rp1 rfl rfl rfl ag_9 rfl ?_
    | refine sl_load_blk1 rfl rfl rfl ag_9 (by repeat constructor) rfl ?_
  refine sl_guard_y rfl rfl rfl g1 ?_
  refine sl_len_str rfl rfl rfl u_9 ?_
  refine sl_guard_y rfl rfl rfl g1 ?_
  refine sl_bin rfl rfl rfl rfl rfl ?_
  refine sl_pk_f rfl rfl rfl g1 rfl ?_
  refine sl_mv rfl rfl rfl ?_
  refine sl_case_at 34 rfl (fun g2 => ?_) (fun g2 => ?_)
  · refine sl_guard_n rfl rfl rfl g2 ?_
    refine sl_guard_n rfl rfl rfl g2 ?_
    refine sl_guard_n rfl rfl rfl g2 ?_
    refine sl_guard_n rfl rfl rfl g2 ?_
    refine sl_pk_t rfl rfl rfl g2 rfl ?_
    refine sl_nil ?_
    refine sw_true rfl (rfl) ?_
    refine sw_seq ?_
    refine sl_region ?_
    refine sl_as rfl rfl rfl ?_
    refine sl_nil ?_
    refine sw_ret ⟨rfl, _, _, res_one rfl rfl, ?_, ⟨rfl, rfl⟩⟩
    repeat constructor
  refine sl_guard_y rfl rfl rfl g2 ?_
  first
    | refine sl_fieldAddr_ptr rfl rfl rfl fo_89_2 ?_
    | refine sl_fieldAddr_rp rfl rfl rfl fo_89_2 ?_
    | refine sl_fieldAddr_ref rfl rfl rfl fo_89_2 ?_
  refine sl_guard_y rfl rfl rfl g2 ?_
  first
    | refine sl_load_rp1 rfl rfl rfl ag_9 rfl ?_
    | refine sl_load_blk1 rfl rfl rfl ag_9 (by repeat constructor) rfl ?_
  refine sl_guard_y rfl rfl rfl g2 ?_
  refine sl_len_str rfl rfl rfl u_9 ?_
  refine sl_guard_y rfl rfl rfl g2 ?_
  refine sl_bin rfl rfl rfl rfl rfl ?_
  refine sl_pk_f rfl rfl rfl g2 rfl ?_
  refine sl_nil ?_
  refine sw_cond rfl (fun g3 => ?_) (fun g3 => ?_)
  · refine sw_seq ?_
    refine sl_region ?_
    refine sl_as rfl rfl rfl ?_
    refine sl_nil ?_
    refine sw_ret ⟨rfl, _, _, res_one rfl rfl, ?_, ⟨rfl, rfl⟩⟩
    repeat constructor
  have n1 : b.length ≤ 9000 := by have := of_decide_eq_false g1; rw [List.length_map] at this; omega
  have n2 : r.name.length ≤ 100 := by have := of_decide_eq_false g2; omega
  have n3 : r.text.length ≤ 500 := by have := of_decide_eq_false g3; omega
  have hl := encReq_len hr (c := 1000) (by decide) (by omega) (by omega)
  refine sw_skip ?_
  refine sw_seq ?_
  refine sl_region ?_
  first
    | refine sl_load_rpn rfl rfl rfl ag_89 sz_89 (Nat.le_of_ble_eq_true rfl) ?_
    | refine sl_load_blkn rfl rfl rfl ag_89 sz_89 (by repeat constructor) (Nat.le_of_ble_eq_true rfl) ?_
    | refine sl_load_ref rfl rfl rfl ag_89 sz_89 (Nat.le_of_ble_eq_true rfl) ?_
  refine sl_callf rfl rfl cal_49 (wbytes_ok r [] hr (by omega) (by omega)) ?_ ?_ ?_ (fun _ _ h => h.elim)
  · repeat constructor
  · repeat constructor
  rintro _ _ ⟨W, rfl, rfl⟩
  have hpos : 0 < (encReq r).length := by have := encNum_pos r.kind.toNat; unfold encReq; simp only [List.length_append]; omega
  obtain ⟨B, hB⟩ : ∃ B, B = encReq r := ⟨_, rfl⟩
  rw [← hB] at hl hpos
  revert W
  rw [← hB]
  intro W
  refine sl_as rfl rfl rfl ?_
  refine sl_nil ?_
  refine sw_seq ?_
  refine sl_region ?_
  refine sl_mv rfl rfl rfl ?_
  refine sl_mv rfl rfl rfl ?_
  first
    | refine sl_len rfl rfl rfl ⟨_, u_26⟩ ?_
    | refine sl_len_sl rfl rfl rfl ⟨_, u_26⟩ ?_
    | refine sl_len_w _ rfl rfl rfl ⟨_, u_26⟩ ?_
  refine sl_callf rfl rfl cal_31 (place_ok at_ (B.length : Int) (W.k (brows B) :: []) (by omega) (by omega)) ?_ ?_ ?_ (fun _ _ h => h.elim)
  · repeat constructor
  · repeat constructor
  rintro _ _ ⟨rfl, rfl⟩
  obtain ⟨k, hk⟩ : ∃ k : Nat, at_ % (B.length : Int) = (k : Int) := ⟨(at_ % (B.length : Int)).toNat, (Int.toNat_of_nonneg (Int.emod_nonneg _ (by omega))).symm⟩
  have hkl : k < B.length := by have := Int.emod_lt_of_pos at_ (b := (B.length : Int)) (by omega); omega
  rw [hk]
  refine sl_as rfl rfl rfl ?_
  refine sl_nil ?_
  refine sw_seq ?_
  refine sl_region ?_
  refine sl_mv rfl rfl rfl ?_
  refine sl_mv rfl rfl rfl ?_
  refine sl_index_w _ (k) rfl rfl rfl rfl u_26 sz_5 (hkl) ?_
  refine sl_load_w1 _ (k) 0 rfl rfl rfl ag_5 (by repeat constructor) (brows_len B) (brows_ok B) (rows_map_get (List.getElem?_eq_getElem hkl)) rfl ?_
  refine sl_mv rfl rfl rfl ?_
  refine sl_bin rfl rfl rfl rfl rfl ?_
  obtain ⟨y, hy⟩ := u8_some _
  refine sl_set 51 (.val (byteV y)) (hy) ?_
  refine sl_index_w _ (k) rfl rfl rfl rfl u_26 sz_5 (hkl) ?_
  refine sl_store_w _ (k) 0 rfl rfl rfl rfl sz_5 rfl rfl rfl (by repeat constructor) (brows_len B) (brows_ok B) (rows_map_get (List.getElem?_eq_getElem hkl)) (Nat.le_of_ble_eq_true rfl) (rows_map_set (f := byteV) (a := y) rfl) ?_
  refine sl_nil ?_
  refine sw_seq ?_
  refine sw_seq ?_
  refine sw_freeze_w (t := 11) W rfl (by repeat constructor) (by simp) (by repeat constructor) ?_
  obtain ⟨C0, hC0⟩ : ∃ C0, C0 = B.set k y := ⟨_, rfl⟩
  rw [← hC0]
  have hC0l : C0.length = B.length := by rw [hC0, List.length_set]
  refine sl_region ?_
  refine sl_mv rfl rfl rfl ?_
  refine sl_nil ?_
  refine sw_cutx (fun sX δX σX => ∃ (C : List UInt8), sX = ⟨106, (.cons 0 (.val (.list (b.map byteV))) (.cons 11 (.val (.list (C.map byteV))) .nil))⟩ ∧ δX = [] ∧ σX = [] ∧ (C.length ≤ 9000)) ?_ ?_
  · refine sw_cond rfl (fun hc => ?_) (fun hc => ?_)
    · refine sl_region ?_
      refine sl_mv rfl rfl rfl ?_
      refine sl_mv rfl rfl rfl ?_
      refine sl_slice_list 0 k rfl rfl rfl u_26 sz_5 (fun x hx => (SzI.get (by repeat constructor) x hx).1) rfl ⟨_, rfl⟩ (Nat.zero_le _) (by rw [List.length_map]; omega) ?_
      refine sl_set 56 (.val (.list ((C0.take k).map byteV))) (take_bytes C0 k) ?_
      refine sl_as rfl rfl rfl ?_
      refine sl_nil ?_
      refine ⟨_, _, ?_, ?_, C0.take k, rfl, rfl, rfl, by rw [List.length_take]; omega⟩
      · exact ⟨rfl, by repeat constructor⟩
      · repeat constructor
    refine sw_skip ?_
    refine ⟨_, _, ?_, ?_, C0, rfl, rfl, rfl, by omega⟩
    · exact ⟨rfl, by repeat constructor⟩
    · repeat constructor
  rintro sX δX σX ⟨C, rfl, rfl, rfl, hC⟩
  refine sw_seq ?_
  refine sw_seq ?_
  refine sl_region ?_
  refine sl_mv rfl rfl rfl ?_
  refine sl_mv rfl rfl rfl ?_
  refine sl_bs1 rfl rfl (.cons rfl (.cons rfl .nil)) u_91 sz_26 zs_26 (by decide) rfl rfl rfl rfl ?_
  refine sl_set 59 (.fix ([b, C].map bytesV)) (rfl) ?_
  first
    | refine sl_len rfl rfl rfl ⟨_, u_91⟩ ?_
    | refine sl_len_sl rfl rfl rfl ⟨_, u_91⟩ ?_
    | refine sl_len_w _ rfl rfl rfl ⟨_, u_91⟩ ?_
  refine sl_mv rfl rfl rfl ?_
  refine sl_nil ?_
  refine sw_block ?_
  refine sw_loopw (fun nX sX δX σX => ∃ (j : Nat), (2 - j) = nX ∧ sX = ⟨106, (.cons 59 (.val (.list ([b, C].map bytesV))) (.cons 60 (.val (.int .i64 2)) (.cons 61 (.val (.int .i64 (j : Int))) .nil)))⟩ ∧ δX = [] ∧ σX = []) ?_ ?_
  · refine ⟨_, _, _, ?_, ?_, 0, rfl, rfl, rfl, rfl⟩
    · exact ⟨rfl, by repeat constructor⟩
    · repeat constructor
  rintro nX sX δX σX ⟨j, rfl, rfl, rfl, rfl⟩
  refine sw_seq ?_
  refine sl_region ?_
  refine sl_bin rfl rfl rfl rfl rfl ?_
  refine sl_nil ?_
  refine sw_seq ?_
  refine sw_cond rfl (fun hj => ?_) (fun hj => ?_)
  · have hj : j < [b, C].length := by have := of_decide_eq_true hj; simp only [List.length_cons, List.length_nil]; omega
    have hj2 : j < 2 := hj
    refine sw_skip ?_
    refine sw_seq ?_
    refine sw_block ?_
    refine sw_seq ?_
    refine sl_region ?_
    refine sl_indexAddr' rfl rfl rfl rfl u_91 sz_26 (by omega) (idx_map hj) rfl ?_
    obtain ⟨Y, hY⟩ : ∃ Y, Y = [b, C][j] := ⟨_, rfl⟩
    rw [← hY]
    have hYl : Y.length ≤ 9000 := by
      have hm : Y ∈ [b, C] := by rw [hY]; exact List.getElem_mem hj
      simp only [List.mem_cons, List.not_mem_nil, or_false] at hm
      rcases hm with rfl | rfl
      · exact n1
      · exact hC
    first
      | refine sl_load_rp1 rfl rfl rfl ag_26 rfl ?_
      | refine sl_load_blk1 rfl rfl rfl ag_26 (by repeat constructor) rfl ?_
    refine sl_as rfl rfl rfl ?_
    refine sl_nil ?_
    refine sw_seq ?_
    refine sl_region ?_
    refine sl_mv rfl rfl rfl ?_
    refine sl_callf rfl rfl cal_50 (qopen_ok Y [] (by omega)) ?_ ?_ ?_ (fun _ _ h => h.elim)
    · repeat constructor
    · repeat constructor
    rintro _ _ ⟨rfl, rfl⟩
    refine sl_mv rfl rfl rfl ?_
    refine sl_extract rfl rfl rfl rfl ?_
    refine sl_extract rfl rfl rfl rfl ?_
    refine sl_alloc rfl rfl zd_89 (fun b15 => ?_)
    refine sl_stp rfl rfl rfl rfl sz_89 rfl rfl rfl (by repeat constructor) (Nat.le_of_ble_eq_true rfl) ?_
    refine sl_as rfl rfl rfl ?_
    refine sl_nil ?_
    refine sw_seq ?_
    refine sl_region ?_
    refine sl_mv rfl rfl rfl ?_
    refine sl_callf rfl rfl cal_51 (dopen_ok Y (.blk b15 (rowOf (reqV ((openReq Y).getD noReq))) :: []) (by omega)) ?_ ?_ ?_ (fun _ _ h => h.elim)
    · repeat constructor
    · repeat constructor
    rintro _ _ ⟨rfl, rfl⟩
    refine sl_mv rfl rfl rfl ?_
    refine sl_extract rfl rfl rfl rfl ?_
    refine sl_extract rfl rfl rfl rfl ?_
    refine sl_alloc rfl rfl zd_89 (fun b17 => ?_)
    refine sl_stp rfl rfl rfl rfl sz_89 rfl rfl rfl (by repeat constructor) (Nat.le_of_ble_eq_true rfl) ?_
    refine sl_as rfl rfl rfl ?_
    refine sl_nil ?_
    refine sw_seq ?_
    refine sl_region ?_
    refine sl_mv rfl rfl rfl ?_
    refine sl_callf rfl rfl cal_52 (qopenrep_ok Y (.blk b17 (rowOf (reqV ((openReq Y).getD noReq))) :: .blk b15 (rowOf (reqV ((openReq Y).getD noReq))) :: []) (by omega)) ?_ ?_ ?_ (fun _ _ h => h.elim)
    · repeat constructor
    · repeat constructor
    rintro _ _ ⟨rfl, rfl⟩
    refine sl_mv rfl rfl rfl ?_
    refine sl_extract rfl rfl rfl rfl ?_
    refine sl_extract rfl rfl rfl rfl ?_
    refine sl_alloc rfl rfl zd_97 (fun b19 => ?_)
    refine sl_stp rfl rfl rfl rfl sz_97 rfl rfl rfl (by repeat constructor) (Nat.le_of_ble_eq_true rfl) ?_
    refine sl_as rfl rfl rfl ?_
    refine sl_nil ?_
    refine sw_seq ?_
    refine sl_region ?_
    refine sl_mv rfl rfl rfl ?_
    refine sl_callf rfl rfl cal_53 (dopenrep_ok Y (.blk b19 (rowOf (repV ((openRep Y).getD noRep))) :: .blk b17 (rowOf (reqV ((openReq Y).getD noReq))) :: .blk b15 (rowOf (reqV ((openReq Y).getD noReq))) :: []) (by omega)) ?_ ?_ ?_ (fun _ _ h => h.elim)
    · repeat constructor
    · repeat constructor
    rintro _ _ ⟨rfl, rfl⟩
    obtain ⟨q, hq⟩ : ∃ q, q = (openReq Y).getD noReq := ⟨_, rfl⟩
    obtain ⟨p, hp⟩ : ∃ p, p = (openRep Y).getD noRep := ⟨_, rfl⟩
    have hps : p.alarms.length ≤ 100000000 := by rw [hp]; exact Nat.le_trans openRep_small (by omega)
    rw [← hq, ← hp]
    refine sl_mv rfl rfl rfl ?_
    refine sl_extract rfl rfl rfl rfl ?_
    refine sl_extract rfl rfl rfl rfl ?_
    refine sl_alloc rfl rfl zd_97 (fun b21 => ?_)
    refine sl_stp rfl rfl rfl rfl sz_97 rfl rfl rfl (by repeat constructor) (Nat.le_of_ble_eq_true rfl) ?_
    refine sl_as rfl rfl rfl ?_
    refine sl_nil ?_
    refine sw_seq ?_
    refine sl_region ?_
    refine sl_mv rfl rfl rfl ?_
    refine sl_mv rfl rfl rfl ?_
    refine sl_bin rfl rfl rfl rfl rfl ?_
    refine sl_set 87 (.val (.bool false)) (self_ne_errs _) ?_
    refine sl_mv rfl rfl rfl ?_
    refine sl_guard_y rfl rfl rfl (rfl) ?_
    first
      | refine sl_load_rpn rfl rfl rfl ag_89 sz_89 (Nat.le_of_ble_eq_true rfl) ?_
      | refine sl_load_blkn rfl rfl rfl ag_89 sz_89 (by repeat constructor) (Nat.le_of_ble_eq_true rfl) ?_
      | refine sl_load_ref rfl rfl rfl ag_89 sz_89 (Nat.le_of_ble_eq_true rfl) ?_
    refine sl_guard_y rfl rfl rfl (rfl) ?_
    first
      | refine sl_load_rpn rfl rfl rfl ag_89 sz_89 (Nat.le_of_ble_eq_true rfl) ?_
      | refine sl_load_blkn rfl rfl rfl ag_89 sz_89 (by repeat constructor) (Nat.le_of_ble_eq_true rfl) ?_
      | refine sl_load_ref rfl rfl rfl ag_89 sz_89 (Nat.le_of_ble_eq_true rfl) ?_
    refine sl_guard_y rfl rfl rfl (rfl) ?_
    refine sl_callf rfl rfl cal_54 (same_ok q q (.blk b21 (rowOf (repV p)) :: .blk b19 (rowOf (repV p)) :: .blk b17 (rowOf (reqV q)) :: .blk b15 (rowOf (reqV q)) :: [])) ?_ ?_ ?_ (fun _ _ h => h.elim)
    · repeat constructor
    · repeat constructor
    rintro _ _ ⟨rfl, rfl⟩
    refine sl_guard_y rfl rfl rfl (rfl) ?_
    refine sl_not rfl rfl rfl ?_
    refine sl_set 92 (.val (.bool false)) (not_dec_true rfl) ?_
    refine sl_pk_f rfl rfl rfl (rfl) rfl ?_
    refine sl_mv rfl rfl rfl ?_
    refine sl_guard_y rfl rfl rfl (rfl) ?_
    refine sl_mv rfl rfl rfl ?_
    refine sl_guard_y rfl rfl rfl (rfl) ?_
    refine sl_mv rfl rfl rfl ?_
    refine sl_guard_y rfl rfl rfl (rfl) ?_
    refine sl_bin rfl rfl rfl rfl rfl ?_
    refine sl_set 97 (.val (.bool false)) (self_ne_errs _) ?_
    refine sl_pk_f rfl rfl rfl (rfl) rfl ?_
    refine sl_mv rfl rfl rfl ?_
    refine sl_guard_y rfl rfl rfl (rfl) ?_
    first
      | refine sl_load_rpn rfl rfl rfl ag_97 sz_97 (Nat.le_of_ble_eq_true rfl) ?_
      | refine sl_load_blkn rfl rfl rfl ag_97 sz_97 (by repeat constructor) (Nat.le_of_ble_eq_true rfl) ?_
      | refine sl_load_ref rfl rfl rfl ag_97 sz_97 (Nat.le_of_ble_eq_true rfl) ?_
    refine sl_guard_y rfl rfl rfl (rfl) ?_
    first
      | refine sl_load_rpn rfl rfl rfl ag_97 sz_97 (Nat.le_of_ble_eq_true rfl) ?_
      | refine sl_load_blkn rfl rfl rfl ag_97 sz_97 (by repeat constructor) (Nat.le_of_ble_eq_true rfl) ?_
      | refine sl_load_ref rfl rfl rfl ag_97 sz_97 (Nat.le_of_ble_eq_true rfl) ?_
    refine sl_guard_y rfl rfl rfl (rfl) ?_
    refine sl_callf rfl rfl cal_55 (hreply_ok p p (.blk b21 (rowOf (repV p)) :: .blk b19 (rowOf (repV p)) :: .blk b17 (rowOf (reqV q)) :: .blk b15 (rowOf (reqV q)) :: []) hps) ?_ ?_ ?_ (fun _ _ h => h.elim)
    · repeat constructor
    · repeat constructor
    rintro _ _ ⟨rfl, rfl⟩
    refine sl_guard_y rfl rfl rfl (rfl) ?_
    refine sl_not rfl rfl rfl ?_
    refine sl_set 103 (.val (.bool false)) (not_dec_true rfl) ?_
    refine sl_pk_f rfl rfl rfl (rfl) rfl ?_
    refine sl_nil ?_
    refine sw_false rfl (rfl) ?_
    refine sw_skip ?_
    refine sl_region ?_
    first
      | refine sl_inc rfl rfl rfl rfl (by omega) ?_
      | refine sl_add rfl rfl rfl rfl (by constructor <;> omega) ?_
      | refine sl_bin rfl rfl rfl rfl rfl ?_
    refine sl_mv rfl rfl rfl ?_
    refine sl_nil ?_
    refine ⟨_, by have := hj; simp only [List.length_cons, List.length_nil] at this; omega, _, _, ?_, ?_, j + 1, rfl, rfl, rfl, rfl⟩
    · exact ⟨rfl, by repeat constructor⟩
    · repeat constructor
  refine sw_exit ?_
  refine sw_seq ?_
  refine sl_region ?_
  refine sl_as rfl rfl rfl ?_
  refine sl_nil ?_
  refine sw_ret ⟨rfl, _, _, res_one rfl rfl, ?_, ⟨rfl, rfl⟩⟩
  repeat constructor

end Go.Proofs.Ytioechdfghglhaa

/- Walks: printed by a program of this session out of its script ReqI. -/
namespace Go.Proofs.Ytioechdfghglhaa
set_option linter.unusedVariables false
set_option linter.unusedSimpArgs false
set_option maxRecDepth 4000
set_option maxHeartbeats 4000000
open Go Go.RowKit SL


/-- ReqGreat. -/
theorem reqGreat_ok (n : Int) (h0 : 0 ≤ n) (h1 : n ≤ 255) : FSpec Try.prog 13 [.val (.int .u8 n)] [] (fun d σ' => d = .val (.bool true) ∧ σ' = []) := by
  have ht : n.tmod 12 = ((n.toNat % 12 : Nat) : Int) := by
    rw [Int.tmod_eq_emod_of_nonneg h0]; omega
  obtain ⟨K, hK⟩ : ∃ K : Nat, K = 8184 + n.toNat % 12 := ⟨_, rfl⟩
  refine spec_of_sw Try.func13 rfl ?_
  refine sw_seq ?_
  refine sl_region ?_
  refine sl_as rfl rfl rfl ?_
  refine sl_nil ?_
  refine sw_seq ?_
  refine sw_seq ?_
  refine sl_region ?_
  refine sl_callf rfl rfl cal_48 (known24_ok []) ?_ ?_ ?_ (fun _ _ h => h.elim)
  · repeat constructor
  · repeat constructor
  rintro _ _ ⟨rfl, rfl⟩
  refine sl_not rfl rfl rfl ?_
  refine sl_nil ?_
  refine sw_false rfl (rfl) ?_
  refine sw_skip ?_
  refine sw_seq ?_
  refine sl_region ?_
  refine sl_mv rfl rfl rfl ?_
  refine sl_rem rfl rfl rfl rfl (by decide) ?_
  refine sl_conv_int rfl rfl rfl is_5 u_3 ?_
  refine sl_set 11 (.val (.int .i64 ((n.toNat % 12 : Nat) : Int))) (by rw [ht]; exact congrArg (fun z => D.val (.int .i64 z)) (wrap_i64 (by omega) (by omega))) ?_
  first
    | refine sl_inc rfl rfl rfl rfl (by omega) ?_
    | refine sl_add rfl rfl rfl rfl (by constructor <;> omega) ?_
    | refine sl_bin rfl rfl rfl rfl rfl ?_
  refine sl_set 12 (.val (.int .i64 ((K : Nat) : Int))) (congrArg (fun z => D.val (.int .i64 z)) (by rw [hK]; omega)) ?_
  refine sl_as rfl rfl rfl ?_
  refine sl_nil ?_
  refine sw_seq ?_
  refine sl_region ?_
  refine sl_mv rfl rfl rfl ?_
  refine sl_make rfl rfl rfl rfl u_26 el_5 zd_5 rfl (by omega) (fun W14 => ?_)
  rw [zero_rows]
  refine sl_freeze_w (t := 14) W14 rfl (by repeat constructor) (by simp) (by repeat constructor) ?_
  have hgl := encReq_len (greatReq_ok K) (c := 10000) (by decide) (by simp [greatReq]) (by simp [greatReq]; omega)
  refine sl_bytes_str rfl rfl rfl u_26 u_5 u_9 ?_
  refine sl_bd rfl rfl (.cons rfl (.cons rfl .nil)) bi_89 zd_89 rfl ?_
  refine sl_callf rfl rfl cal_56 (qbytes_ok (greatReq K) [] (greatReq_ok K) (by simp [greatReq]) (by simp [greatReq]; omega)) ?_ ?_ ?_ (fun _ _ h => h.elim)
  · repeat constructor
  · repeat constructor
  rintro _ _ ⟨rfl, rfl⟩
  refine sl_as rfl rfl rfl ?_
  refine sl_nil ?_
  refine sw_seq ?_
  refine sl_region ?_
  refine sl_mv rfl rfl rfl ?_
  refine sl_callf rfl rfl cal_50 (qopen_ok (encReq (greatReq K)) [] (by omega)) ?_ ?_ ?_ (fun _ _ h => h.elim)
  · repeat constructor
  · repeat constructor
  rintro _ _ ⟨rfl, rfl⟩
  refine sl_mv rfl rfl rfl ?_
  refine sl_extract rfl rfl rfl rfl ?_
  refine sl_extract rfl rfl rfl rfl ?_
  refine sl_alloc rfl rfl zd_89 (fun b5 => ?_)
  refine sl_stp rfl rfl rfl rfl sz_89 rfl rfl rfl (by repeat constructor) (Nat.le_of_ble_eq_true rfl) ?_
  refine sl_as rfl rfl rfl ?_
  refine sl_nil ?_
  refine sw_seq ?_
  refine sl_region ?_
  refine sl_mv rfl rfl rfl ?_
  refine sl_bin rfl rfl rfl rfl rfl ?_
  refine sl_mv rfl rfl rfl ?_
  first
    | refine sl_len rfl rfl rfl ⟨_, u_26⟩ ?_
    | refine sl_len_sl rfl rfl rfl ⟨_, u_26⟩ ?_
    | refine sl_len_w _ rfl rfl rfl ⟨_, u_26⟩ ?_
  refine sl_bin rfl rfl rfl rfl rfl ?_
  refine sl_bool_eq rfl rfl rfl rfl u_4 ?_
  refine sl_set 28 (.val (.bool true)) (great_open (by omega)) ?_
  refine sl_as rfl rfl rfl ?_
  refine sl_nil ?_
  refine sw_ret ⟨rfl, _, _, res_one rfl rfl, ?_, ⟨rfl, rfl⟩⟩
  repeat constructor


/-- ReqCuts. -/
theorem reqCuts_ok (r : Req) (p : Rep) (at_ more : Int) (hr : ReqOk r) (hp : RepOk p) (h0 : 0 ≤ more) (h1 : more ≤ 255) :
    FSpec Try.prog 14 [.val (reqV r), .val (repV p), .val (i64V at_), .val (.int .u8 more)] [] (fun d σ' => d = .val (.bool true) ∧ σ' = []) := by
  obtain ⟨y, hy⟩ := u8_of h0 h1
  rw [hy]
  refine spec_of_sw Try.func14 rfl ?_
  refine sw_seq ?_
  refine sl_region ?_
  refine sl_bx_imm rfl rfl rfl rfl rfl ?_
  refine sl_bx_imm rfl rfl rfl rfl rfl ?_
  refine sl_as rfl rfl rfl ?_
  refine sl_nil ?_
  refine sw_seq ?_
  refine sw_seq ?_
  refine sl_region ?_
  refine sl_callf rfl rfl cal_48 (known24_ok []) ?_ ?_ ?_ (fun _ _ h => h.elim)
  · repeat constructor
  · repeat constructor
  rintro _ _ ⟨rfl, rfl⟩
  refine sl_not rfl rfl rfl ?_
  refine sl_nil ?_
  refine sw_false rfl (rfl) ?_
  refine sw_skip ?_
  refine sw_seq ?_
  refine sw_seq ?_
  refine sl_region ?_
  first
    | refine sl_fieldAddr_ptr rfl rfl rfl fo_89_1 ?_
    | refine sl_fieldAddr_rp rfl rfl rfl fo_89_1 ?_
    | refine sl_fieldAddr_ref rfl rfl rfl fo_89_1 ?_
  first
    | refine sl_load_rp1 rfl rfl rfl ag_9 rfl ?_
    | refine sl_load_blk1 rfl rfl rfl ag_9 (by repeat constructor) rfl ?_
  refine sl_len_str rfl rfl rfl u_9 ?_
  refine sl_bin rfl rfl rfl rfl rfl ?_
  refine sl_mv rfl rfl rfl ?_
  refine sl_case_at 27 rfl (fun g1 => ?_) (fun g1 => ?_)
  · refine sl_guard_n rfl rfl rfl g1 ?_
    refine sl_guard_n rfl rfl rfl g1 ?_
    refine sl_guard_n rfl rfl rfl g1 ?_
    refine sl_guard_n rfl rfl rfl g1 ?_
    refine sl_pk_t rfl rfl rfl g1 rfl ?_
    refine sl_mv rfl rfl rfl ?_
    refine sl_guard_n rfl rfl rfl (rfl) ?_
    refine sl_guard_n rfl rfl rfl (rfl) ?_
    refine sl_guard_n rfl rfl rfl (rfl) ?_
    refine sl_guard_n rfl rfl rfl (rfl) ?_
    refine sl_pk_t rfl rfl rfl (rfl) rfl ?_
    refine sl_mv rfl rfl rfl ?_
    refine sl_guard_n rfl rfl rfl (rfl) ?_
    refine sl_guard_n rfl rfl rfl (rfl) ?_
    refine sl_guard_n rfl rfl rfl (rfl) ?_
    refine sl_guard_n rfl rfl rfl (rfl) ?_
    refine sl_pk_t rfl rfl rfl (rfl) rfl ?_
    refine sl_nil ?_
    refine sw_true rfl (rfl) ?_
    refine sw_seq ?_
    refine sl_region ?_
    refine sl_as rfl rfl rfl ?_
    refine sl_nil ?_
    refine sw_ret ⟨rfl, _, _, res_one rfl rfl, ?_, ⟨rfl, rfl⟩⟩
    repeat constructor
  refine sl_guard_y rfl rfl rfl g1 ?_
  first
    | refine sl_fieldAddr_ptr rfl rfl rfl fo_89_2 ?_
    | refine sl_fieldAddr_rp rfl rfl rfl fo_89_2 ?_
    | refine sl_fieldAddr_ref rfl rfl rfl fo_89_2 ?_
  refine sl_guard_y rfl rfl rfl g1 ?_
  first
    | refine sl_load_rp1 rfl rfl rfl ag_9 rfl ?_
    | refine sl_load_blk1 rfl rfl rfl ag_9 (by repeat constructor) rfl ?_
  refine sl_guard_y rfl rfl rfl g1 ?_
  refine sl_len_str rfl rfl rfl u_9 ?_
  refine sl_guard_y rfl rfl rfl g1 ?_
  refine sl_bin rfl rfl rfl rfl rfl ?_
  refine sl_pk_f rfl rfl rfl g1 rfl ?_
  refine sl_mv rfl rfl rfl ?_
  refine sl_case_at 33 rfl (fun g2 => ?_) (fun g2 => ?_)
  · refine sl_guard_n rfl rfl rfl g2 ?_
    refine sl_guard_n rfl rfl rfl g2 ?_
    refine sl_guard_n rfl rfl rfl g2 ?_
    refine sl_guard_n rfl rfl rfl g2 ?_
    refine sl_pk_t rfl rfl rfl g2 rfl ?_
    refine sl_mv rfl rfl rfl ?_
    refine sl_guard_n rfl rfl rfl (rfl) ?_
    refine sl_guard_n rfl rfl rfl (rfl) ?_
    refine sl_guard_n rfl rfl rfl (rfl) ?_
    refine sl_guard_n rfl rfl rfl (rfl) ?_
    refine sl_pk_t rfl rfl rfl (rfl) rfl ?_
    refine sl_nil ?_
    refine sw_true rfl (rfl) ?_
    refine sw_seq ?_
    refine sl_region ?_
    refine sl_as rfl rfl rfl ?_
    refine sl_nil ?_
    refine sw_ret ⟨rfl, _, _, res_one rfl rfl, ?_, ⟨rfl, rfl⟩⟩
    repeat constructor
  refine sl_guard_y rfl rfl rfl g2 ?_
  first
    | refine sl_fieldAddr_ptr rfl rfl rfl fo_97_4 ?_
    | refine sl_fieldAddr_rp rfl rfl rfl fo_97_4 ?_
    | refine sl_fieldAddr_ref rfl rfl rfl fo_97_4 ?_
  refine sl_guard_y rfl rfl rfl g2 ?_
  first
    | refine sl_load_rp1 rfl rfl rfl ag_9 rfl ?_
    | refine sl_load_blk1 rfl rfl rfl ag_9 (by repeat constructor) rfl ?_
  refine sl_guard_y rfl rfl rfl g2 ?_
  refine sl_len_str rfl rfl rfl u_9 ?_
  refine sl_guard_y rfl rfl rfl g2 ?_
  refine sl_bin rfl rfl rfl rfl rfl ?_
  refine sl_pk_f rfl rfl rfl g2 rfl ?_
  refine sl_mv rfl rfl rfl ?_
  refine sl_case_at 39 rfl (fun g3 => ?_) (fun g3 => ?_)
  · refine sl_guard_n rfl rfl rfl g3 ?_
    refine sl_guard_n rfl rfl rfl g3 ?_
    refine sl_guard_n rfl rfl rfl g3 ?_
    refine sl_guard_n rfl rfl rfl g3 ?_
    refine sl_pk_t rfl rfl rfl g3 rfl ?_
    refine sl_nil ?_
    refine sw_true rfl (rfl) ?_
    refine sw_seq ?_
    refine sl_region ?_
    refine sl_as rfl rfl rfl ?_
    refine sl_nil ?_
    refine sw_ret ⟨rfl, _, _, res_one rfl rfl, ?_, ⟨rfl, rfl⟩⟩
    repeat constructor
  refine sl_guard_y rfl rfl rfl g3 ?_
  first
    | refine sl_fieldAddr_ptr rfl rfl rfl fo_97_3 ?_
    | refine sl_fieldAddr_rp rfl rfl rfl fo_97_3 ?_
    | refine sl_fieldAddr_ref rfl rfl rfl fo_97_3 ?_
  refine sl_guard_y rfl rfl rfl g3 ?_
  first
    | refine sl_load_rp1 rfl rfl rfl ag_67 rfl ?_
    | refine sl_load_blk1 rfl rfl rfl ag_67 (by repeat constructor) rfl ?_
  refine sl_guard_y rfl rfl rfl g3 ?_
  first
    | refine sl_len rfl rfl rfl ⟨_, u_67⟩ ?_
    | refine sl_len_sl rfl rfl rfl ⟨_, u_67⟩ ?_
    | refine sl_len_w _ rfl rfl rfl ⟨_, u_67⟩ ?_
  refine sl_guard_y rfl rfl rfl g3 ?_
  refine sl_bin rfl rfl rfl rfl rfl ?_
  refine sl_pk_f rfl rfl rfl g3 rfl ?_
  refine sl_nil ?_
  refine sw_cond rfl (fun g4 => ?_) (fun g4 => ?_)
  · refine sw_seq ?_
    refine sl_region ?_
    refine sl_as rfl rfl rfl ?_
    refine sl_nil ?_
    refine sw_ret ⟨rfl, _, _, res_one rfl rfl, ?_, ⟨rfl, rfl⟩⟩
    repeat constructor
  have n1 : r.name.length ≤ 100 := by have := of_decide_eq_false g1; omega
  have n2 : r.text.length ≤ 500 := by have := of_decide_eq_false g2; omega
  have n3 : p.text.length ≤ 500 := by have := of_decide_eq_false g3; omega
  have n4 : p.alarms.length ≤ 10 := by have := of_decide_eq_false g4; rw [List.length_map] at this; omega
  have hl1 := encReq_len hr (c := 1000) (by decide) (by omega) (by omega)
  have hl2 := encRep_len hp (c := 1000) (by decide) (by omega) (by omega)
  refine sw_skip ?_
  refine sw_seq ?_
  refine sa_start [] mixed ?_
  refine sa_take 0 rfl rfl (by kernel_rfl) .nil (pu_load_rpn rfl rfl ag_89 sz_89 (Nat.le_of_ble_eq_true rfl)) ?_
  refine sa_take 2 rfl rfl (by kernel_rfl) .nil (pu_load_rpn rfl rfl ag_97 sz_97 (Nat.le_of_ble_eq_true rfl)) ?_
  refine sa_one 1 (by kernel_rfl) rfl ?_
  refine sl_callf rfl rfl cal_49 (dbytes_ok r [] hr (by omega) (by omega)) ?_ ?_ ?_ (fun _ _ h => h.elim)
  · repeat constructor
  · repeat constructor
  rintro _ _ ⟨v1, rfl, rfl⟩
  refine sl_nil ⟨.nil, ?_⟩
  refine sa_one 3 (by kernel_rfl) rfl ?_
  refine sl_callf rfl rfl cal_58 (dreply_ok p (.spare v1 1 :: []) hp (by omega) (by omega)) ?_ ?_ ?_ (fun _ _ h => h.elim)
  · repeat constructor
  · repeat constructor
  rintro _ _ ⟨v2, rfl, rfl⟩
  refine sl_nil ⟨.nil, ?_⟩
  have hpos1 : 0 < (encReq r).length := by have := encNum_pos r.kind.toNat; unfold encReq; simp only [List.length_append]; omega
  have hpos2 : 0 < (encRep p).length := by have := encNum_pos p.kind.toNat; unfold encRep; simp only [List.length_append]; omega
  have q1 : ∀ k, k < (encReq r).length → openReq ((encReq r).take k) = none := fun k hk => openReq_cut hr (by omega) (by omega) hk
  have q2 := openReq_more hr (by omega) (by omega) y
  have q3 : ∀ k, k < (encRep p).length → openRep ((encRep p).take k) = none := fun k hk => openRep_cut hp (by omega) (by omega) hk
  have q4 := openRep_more hp (by omega) (by omega) y
  obtain ⟨B, hB⟩ : ∃ B, B = encReq r := ⟨_, rfl⟩
  obtain ⟨C, hC⟩ : ∃ C, C = encRep p := ⟨_, rfl⟩
  rw [← hB] at hl1 hpos1 q1 q2
  rw [← hC] at hl2 hpos2 q3 q4
  rw [← hB, ← hC]
  obtain ⟨k, hk⟩ : ∃ k, k = (at_.tmod ((B.length : Nat) : Int)).natAbs := ⟨_, rfl⟩
  obtain ⟨j, hj⟩ : ∃ k, k = (at_.tmod ((C.length : Nat) : Int)).natAbs := ⟨_, rfl⟩
  have hkl : k < B.length := by rw [hk]; exact tmod_abs hpos1
  have hjl : j < C.length := by rw [hj]; exact tmod_abs hpos2
  refine sa_one 4 (by kernel_rfl) rfl ?_
  refine sl_as rfl rfl rfl ?_
  refine sl_nil ⟨.nil, ?_⟩
  refine sa_one 5 (by kernel_rfl) rfl ?_
  refine sl_as rfl rfl rfl ?_
  refine sl_nil ⟨.nil, ?_⟩
  refine sa_done (by kernel_rfl) ?_
  refine sw_seq ?_
  refine sa_start [] mixed ?_
  refine sa_take 0 rfl rfl (by kernel_rfl) .nil (pu_mv rfl rfl) ?_
  refine sa_take 1 rfl rfl (by kernel_rfl) .nil (pu_mv rfl rfl) ?_
  first
    | refine sa_take 2 rfl rfl (by kernel_rfl) .nil (pu_len rfl rfl ⟨_, u_26⟩) ?_
    | refine sa_take 2 rfl rfl (by kernel_rfl) .nil (pu_len_sl rfl rfl ⟨_, u_26⟩) ?_
    | refine sa_take 2 rfl rfl (by kernel_rfl) .nil (pu_len_w _ rfl rfl ⟨_, u_26⟩) ?_
  refine sa_take 3 rfl rfl (by kernel_rfl) .nil (pu_rem rfl rfl rfl (by rw [List.length_map]; omega)) ?_
  refine sa_take 4 rfl rfl (by kernel_rfl) .nil (pu_mv rfl rfl) ?_
  refine sa_take 5 rfl rfl (by kernel_rfl) .nil (pu_mv rfl rfl) ?_
  first
    | refine sa_take 6 rfl rfl (by kernel_rfl) .nil (pu_len rfl rfl ⟨_, u_26⟩) ?_
    | refine sa_take 6 rfl rfl (by kernel_rfl) .nil (pu_len_sl rfl rfl ⟨_, u_26⟩) ?_
    | refine sa_take 6 rfl rfl (by kernel_rfl) .nil (pu_len_w _ rfl rfl ⟨_, u_26⟩) ?_
  refine sa_take 7 rfl rfl (by kernel_rfl) .nil (pu_rem rfl rfl rfl (by rw [List.length_map]; omega)) ?_
  refine sa_one 8 (by kernel_rfl) rfl ?_
  refine sl_as rfl rfl rfl ?_
  refine sl_nil ⟨.nil, ?_⟩
  refine sa_one 9 (by kernel_rfl) rfl ?_
  refine sl_as rfl rfl rfl ?_
  refine sl_nil ⟨.nil, ?_⟩
  refine sa_done (by kernel_rfl) ?_
  refine sw_seq ?_
  refine sw_seq ?_
  refine sw_set 11 (.val (.int .i64 (at_.tmod (B.length : Int)))) (congrArg (fun n : Nat => D.val (.int .i64 (at_.tmod (n : Int)))) (List.length_map byteV)) ?_
  refine sw_set 12 (.val (.int .i64 (at_.tmod (C.length : Int)))) (congrArg (fun n : Nat => D.val (.int .i64 (at_.tmod (n : Int)))) (List.length_map byteV)) ?_
  refine sl_region ?_
  refine sl_mv rfl rfl rfl ?_
  refine sl_bin rfl rfl rfl rfl rfl ?_
  refine sl_nil ?_
  refine sw_cutk ⟨111, (.cons 3 (.val (byteV y)) (.cons 9 (.val (.list (B.map byteV))) (.cons 10 (.val (.list (C.map byteV))) (.cons 11 (.val (.int .i64 (k : Int))) (.cons 12 (.val (.int .i64 (at_.tmod (C.length : Int)))) .nil)))))⟩ ([]) (True) ?_ ?_
  · refine sw_cond rfl (fun hc => ?_) (fun hc => ?_)
    · have hc1 := of_decide_eq_true hc
      refine sl_region ?_
      refine sl_mv rfl rfl rfl ?_
      refine sl_neg rfl rfl rfl ?_
      refine sl_set 60 (.val (.int .i64 (k : Int))) (congrArg (fun z => D.val (.int .i64 z)) (by rw [wrap_i64 (by omega) (by omega)]; omega)) ?_
      refine sl_as rfl rfl rfl ?_
      refine sl_nil ?_
      refine ⟨?_, ?_, rfl, trivial⟩
      · exact ⟨rfl, by repeat constructor⟩
      · repeat constructor
    have hc1 := of_decide_eq_false hc
    refine sw_set 11 (.val (.int .i64 (k : Int))) (congrArg (fun z => D.val (.int .i64 z)) (by omega)) ?_
    refine sw_skip ?_
    refine ⟨?_, ?_, rfl, trivial⟩
    · exact ⟨rfl, by repeat constructor⟩
    · repeat constructor
  intro _
  refine sw_seq ?_
  refine sw_seq ?_
  refine sl_region ?_
  refine sl_mv rfl rfl rfl ?_
  refine sl_bin rfl rfl rfl rfl rfl ?_
  refine sl_nil ?_
  refine sw_cutk ⟨111, (.cons 3 (.val (byteV y)) (.cons 9 (.val (.list (B.map byteV))) (.cons 10 (.val (.list (C.map byteV))) (.cons 11 (.val (.int .i64 (k : Int))) (.cons 12 (.val (.int .i64 (j : Int))) .nil)))))⟩ ([]) (True) ?_ ?_
  · refine sw_cond rfl (fun hc => ?_) (fun hc => ?_)
    · have hc1 := of_decide_eq_true hc
      refine sl_region ?_
      refine sl_mv rfl rfl rfl ?_
      refine sl_neg rfl rfl rfl ?_
      refine sl_set 64 (.val (.int .i64 (j : Int))) (congrArg (fun z => D.val (.int .i64 z)) (by rw [wrap_i64 (by omega) (by omega)]; omega)) ?_
      refine sl_as rfl rfl rfl ?_
      refine sl_nil ?_
      refine ⟨?_, ?_, rfl, trivial⟩
      · exact ⟨rfl, by repeat constructor⟩
      · repeat constructor
    have hc1 := of_decide_eq_false hc
    refine sw_set 12 (.val (.int .i64 (j : Int))) (congrArg (fun z => D.val (.int .i64 z)) (by omega)) ?_
    refine sw_skip ?_
    refine ⟨?_, ?_, rfl, trivial⟩
    · exact ⟨rfl, by repeat constructor⟩
    · repeat constructor
  intro _
  refine sw_seq ?_
  refine sl_region ?_
  refine sl_mv rfl rfl rfl ?_
  refine sl_mv rfl rfl rfl ?_
  refine sl_slice_list 0 k rfl rfl rfl u_26 sz_5 (fun x hx => (SzI.get (by repeat constructor) x hx).1) rfl ⟨_, rfl⟩ (Nat.zero_le _) (by rw [List.length_map]; omega) ?_
  refine sl_set 68 (.val (.list ((B.take k).map byteV))) (take_bytes B k) ?_
  refine sl_callf rfl rfl cal_50 (qopen_ok (B.take k) [] (by rw [List.length_take]; omega)) ?_ ?_ ?_ (fun _ _ h => h.elim)
  · repeat constructor
  · repeat constructor
  rintro _ _ ⟨rfl, rfl⟩
  rw [q1 k hkl]
  refine sl_mv rfl rfl rfl ?_
  refine sl_extract rfl rfl rfl rfl ?_
  refine sl_extract rfl rfl rfl rfl ?_
  refine sl_alloc rfl rfl zd_89 (fun b13 => ?_)
  refine sl_stp rfl rfl rfl rfl sz_89 rfl rfl rfl (by repeat constructor) (Nat.le_of_ble_eq_true rfl) ?_
  refine sl_as rfl rfl rfl ?_
  refine sl_nil ?_
  refine sw_seq ?_
  refine sw_dummy ?_
  refine sl_region ?_
  refine sl_mv rfl rfl rfl ?_
  refine sl_app_b (WL.bnil) rfl rfl rfl rfl u_26 ⟨_, u_26, rfl⟩ el_5 (by repeat constructor) (by repeat constructor) (by simp; omega) ((rfl : ([] : List UInt8).map byteV ++ _ = B.map byteV)) (fun v74 => ?_)
  refine sl_mv rfl rfl rfl ?_
  refine sl_bs1 rfl rfl (.cons rfl .nil) u_26 sz_5 zs_5 (by decide) rfl rfl rfl rfl ?_
  refine sl_app_b (_) rfl rfl rfl rfl u_26 ⟨_, u_26, rfl⟩ el_5 (by repeat constructor) (by repeat constructor) (by simp; omega) ((by rw [List.map_append]; rfl : _ = (B ++ [y]).map byteV)) (fun v77 => ?_)
  refine sl_freeze_w (t := 77) v77 rfl (by repeat constructor) (by simp) (by repeat constructor) ?_
  refine sl_callf rfl rfl cal_50 (qopen_ok (B ++ [y]) (.blk b13 (rowOf (reqV noReq)) :: []) (by rw [List.length_append, List.length_singleton]; omega)) ?_ ?_ ?_ (fun _ _ h => h.elim)
  · repeat constructor
  · repeat constructor
  rintro _ _ ⟨rfl, rfl⟩
  rw [q2]
  refine sl_mv rfl rfl rfl ?_
  refine sl_extract rfl rfl rfl rfl ?_
  refine sl_extract rfl rfl rfl rfl ?_
  refine sl_alloc rfl rfl zd_89 (fun b15 => ?_)
  refine sl_stp rfl rfl rfl rfl sz_89 rfl rfl rfl (by repeat constructor) (Nat.le_of_ble_eq_true rfl) ?_
  refine sl_as rfl rfl rfl ?_
  refine sl_nil ?_
  refine sw_seq ?_
  refine sl_region ?_
  refine sl_mv rfl rfl rfl ?_
  refine sl_mv rfl rfl rfl ?_
  refine sl_slice_list 0 j rfl rfl rfl u_26 sz_5 (fun x hx => (SzI.get (by repeat constructor) x hx).1) rfl ⟨_, rfl⟩ (Nat.zero_le _) (by rw [List.length_map]; omega) ?_
  refine sl_set 84 (.val (.list ((C.take j).map byteV))) (take_bytes C j) ?_
  refine sl_callf rfl rfl cal_52 (qopenrep_ok (C.take j) (.blk b15 (rowOf (reqV noReq)) :: .blk b13 (rowOf (reqV noReq)) :: []) (by rw [List.length_take]; omega)) ?_ ?_ ?_ (fun _ _ h => h.elim)
  · repeat constructor
  · repeat constructor
  rintro _ _ ⟨rfl, rfl⟩
  rw [q3 j hjl]
  refine sl_mv rfl rfl rfl ?_
  refine sl_extract rfl rfl rfl rfl ?_
  refine sl_extract rfl rfl rfl rfl ?_
  refine sl_alloc rfl rfl zd_97 (fun b17 => ?_)
  refine sl_stp rfl rfl rfl rfl sz_97 rfl rfl rfl (by repeat constructor) (Nat.le_of_ble_eq_true rfl) ?_
  refine sl_as rfl rfl rfl ?_
  refine sl_nil ?_
  refine sw_seq ?_
  refine sw_dummy ?_
  refine sl_region ?_
  refine sl_mv rfl rfl rfl ?_
  refine sl_app_b (WL.bnil) rfl rfl rfl rfl u_26 ⟨_, u_26, rfl⟩ el_5 (by repeat constructor) (by repeat constructor) (by simp; omega) ((rfl : ([] : List UInt8).map byteV ++ _ = C.map byteV)) (fun v90 => ?_)
  refine sl_mv rfl rfl rfl ?_
  refine sl_bs1 rfl rfl (.cons rfl .nil) u_26 sz_5 zs_5 (by decide) rfl rfl rfl rfl ?_
  refine sl_app_b (_) rfl rfl rfl rfl u_26 ⟨_, u_26, rfl⟩ el_5 (by repeat constructor) (by repeat constructor) (by simp; omega) ((by rw [List.map_append]; rfl : _ = (C ++ [y]).map byteV)) (fun v93 => ?_)
  refine sl_freeze_w (t := 93) v93 rfl (by repeat constructor) (by simp) (by repeat constructor) ?_
  refine sl_callf rfl rfl cal_52 (qopenrep_ok (C ++ [y]) (.blk b17 (rowOf (repV noRep)) :: .blk b15 (rowOf (reqV noReq)) :: .blk b13 (rowOf (reqV noReq)) :: []) (by rw [List.length_append, List.length_singleton]; omega)) ?_ ?_ ?_ (fun _ _ h => h.elim)
  · repeat constructor
  · repeat constructor
  rintro _ _ ⟨rfl, rfl⟩
  rw [q4]
  refine sl_mv rfl rfl rfl ?_
  refine sl_extract rfl rfl rfl rfl ?_
  refine sl_extract rfl rfl rfl rfl ?_
  refine sl_alloc rfl rfl zd_97 (fun b19 => ?_)
  refine sl_stp rfl rfl rfl rfl sz_97 rfl rfl rfl (by repeat constructor) (Nat.le_of_ble_eq_true rfl) ?_
  refine sl_as rfl rfl rfl ?_
  refine sl_nil ?_
  refine sw_seq ?_
  refine sl_region ?_
  refine sl_mv rfl rfl rfl ?_
  refine sl_bin rfl rfl rfl rfl rfl ?_
  refine sl_mv rfl rfl rfl ?_
  refine sl_guard_y rfl rfl rfl (rfl) ?_
  refine sl_mv rfl rfl rfl ?_
  refine sl_guard_y rfl rfl rfl (rfl) ?_
  refine sl_bin rfl rfl rfl rfl rfl ?_
  refine sl_pk_t rfl rfl rfl (rfl) rfl ?_
  refine sl_mv rfl rfl rfl ?_
  refine sl_guard_y rfl rfl rfl (rfl) ?_
  refine sl_mv rfl rfl rfl ?_
  refine sl_guard_y rfl rfl rfl (rfl) ?_
  refine sl_bin rfl rfl rfl rfl rfl ?_
  refine sl_pk_t rfl rfl rfl (rfl) rfl ?_
  refine sl_mv rfl rfl rfl ?_
  refine sl_guard_y rfl rfl rfl (rfl) ?_
  refine sl_mv rfl rfl rfl ?_
  refine sl_guard_y rfl rfl rfl (rfl) ?_
  refine sl_bin rfl rfl rfl rfl rfl ?_
  refine sl_pk_t rfl rfl rfl (rfl) rfl ?_
  refine sl_as rfl rfl rfl ?_
  refine sl_nil ?_
  refine sw_ret ⟨rfl, _, _, res_one rfl rfl, ?_, ⟨rfl, rfl⟩⟩
  repeat constructor

end Go.Proofs.Ytioechdfghglhaa
