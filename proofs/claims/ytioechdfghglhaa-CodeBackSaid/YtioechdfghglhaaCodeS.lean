/- Walks: printed by a program of this session out of its script CodeS. -/
import Derived.Test.YtioechdfghglhaaSlT
import Derived.Test.YtioechdfghglhaaP11
import Derived.Test.YtioechdfghglhaaCodeR
namespace Go.Proofs.Ytioechdfghglhaa
set_option linter.unusedVariables false
set_option linter.unusedSimpArgs false
set_option maxRecDepth 4000
set_option maxHeartbeats 4000000
open Go Go.RowKit SL


/-- Alarms held against one another. -/
theorem halarms_ok (a b : List Alm) (σ : List Chunk) (hsm : a.length ≤ 100000000) :
    FSpec Try.prog 83 [.val (.list (a.map almV)), .val (.list (b.map almV))] σ (fun d σ' => d = .val (.bool (decide (a = b))) ∧ σ' = σ) := by
  refine spec_of_sw Try.func83 rfl ?_
  refine sw_seq ?_
  refine sl_region ?_
  refine sl_as rfl rfl rfl ?_
  refine sl_nil ?_
  refine sw_seq ?_
  refine sw_seq ?_
  refine sl_region ?_
  refine sl_mv rfl rfl rfl ?_
  first
    | refine sl_len rfl rfl rfl ⟨_, u_67⟩ ?_
    | refine sl_len_sl rfl rfl rfl ⟨_, u_67⟩ ?_
  refine sl_mv rfl rfl rfl ?_
  first
    | refine sl_len rfl rfl rfl ⟨_, u_67⟩ ?_
    | refine sl_len_sl rfl rfl rfl ⟨_, u_67⟩ ?_
  refine sl_bin rfl rfl rfl rfl rfl ?_
  refine sl_nil ?_
  refine sw_cond rfl (fun hl => ?_) (fun hl => ?_)
  · have hl1 : a.length ≠ b.length := len_ne hl
    refine sw_seq ?_
    refine sl_region ?_
    refine sl_as rfl rfl rfl ?_
    refine sl_nil ?_
    refine sw_ret ⟨rfl, _, _, res_one rfl rfl, ?_, ⟨dec_ff (fun e => hl1 (by rw [e])), rfl⟩⟩
    repeat (first | exact Sub.refl _ | exact Sub.none _ | refine Sub.p0 ?_ | refine Sub.p1 ?_ | refine Sub.p2 ?_ | refine Sub.p3 ?_ | refine Sub.p4 ?_ | refine Sub.p5 ?_ | refine Sub.p6 ?_ | refine Sub.drop ?_)
  · have hl1 : a.length = b.length := len_nn hl
    refine sw_skip ?_
    refine sw_seq ?_
    refine sw_seq ?_
    refine sl_region ?_
    refine sl_as rfl rfl rfl ?_
    refine sl_nil ?_
    refine sw_block ?_
    refine sw_loopw (fun nX sX δX σX => ∃ (i : Nat), (a.length - i) = nX ∧ sX = ⟨26, (.cons 0 (.val (.list (a.map almV))) (.cons 1 (.val (.list (b.map almV))) (.cons 5 (.val (.int .i64 (i : Int))) .nil)))⟩ ∧ δX = [] ∧ σX = σ ∧ i ≤ a.length ∧ ∀ k (h1 : k < a.length) (h2 : k < b.length), k < i → a[k] = b[k]) ?_ ?_
    · refine ⟨_, _, _, ?_, ?_, 0, rfl, rfl, rfl, rfl, Nat.zero_le _, fun k h1 h2 h => absurd h (Nat.not_lt_zero k)⟩
      · refine ⟨rfl, ?_⟩; repeat (first | exact WkL.nil | refine WkL.cons (Weak.refl _) ?_ | refine WkL.cons (Weak.toV rfl) ?_ | refine WkL.cons (Weak.ref _) ?_ | refine WkL.cons (Weak.rp_agg _) ?_)
      · repeat (first | exact Sub.refl _ | exact Sub.none _ | refine Sub.p0 ?_ | refine Sub.p1 ?_ | refine Sub.p2 ?_ | refine Sub.p3 ?_ | refine Sub.p4 ?_ | refine Sub.p5 ?_ | refine Sub.p6 ?_ | refine Sub.drop ?_)
    · rintro nX sX δX σX ⟨i, rfl, rfl, rfl, rfl, hi, hall⟩
      refine sw_seq ?_
      refine sw_seq ?_
      refine sl_region ?_
      refine sl_mv rfl rfl rfl ?_
      refine sl_mv rfl rfl rfl ?_
      first
        | refine sl_len rfl rfl rfl ⟨_, u_67⟩ ?_
        | refine sl_len_sl rfl rfl rfl ⟨_, u_67⟩ ?_
      refine sl_bin rfl rfl rfl rfl rfl ?_
      refine sl_nil ?_
      refine sw_cond rfl (fun hj => ?_) (fun hj => ?_)
      · have hj1 : i < a.length := by have := of_decide_eq_true hj; rw [List.length_map] at this; omega
        have hj2 : i < b.length := by omega
        refine sw_skip ?_
        refine sw_seq ?_
        refine sw_block ?_
        refine sw_seq ?_
        refine sa_start [] mixed ?_
        refine sa_take 0 rfl rfl (by kernel_rfl) (by kernel_rfl) (by kernel_rfl) exacts_nil (pu_mv rfl rfl) ?_
        refine sa_take 1 rfl rfl (by kernel_rfl) (by kernel_rfl) (by kernel_rfl) exacts_nil (pu_mv rfl rfl) ?_
        refine sa_take 2 rfl rfl (by kernel_rfl) (by kernel_rfl) (by kernel_rfl) exacts_nil (pu_indexAddr rfl rfl rfl u_67 sz_86 (by omega) (idx_map hj1) rfl) ?_
        refine sa_take 3 rfl rfl (by kernel_rfl) (by kernel_rfl) (by kernel_rfl) exacts_nil (pu_load_rpn rfl rfl ag_86 sz_86 (Nat.le_of_ble_eq_true rfl)) ?_
        refine sa_take 4 rfl rfl (by kernel_rfl) (by kernel_rfl) (by kernel_rfl) exacts_nil (pu_mv rfl rfl) ?_
        refine sa_take 5 rfl rfl (by kernel_rfl) (by kernel_rfl) (by kernel_rfl) exacts_nil (pu_mv rfl rfl) ?_
        refine sa_take 6 rfl rfl (by kernel_rfl) (by kernel_rfl) (by kernel_rfl) exacts_nil (pu_indexAddr rfl rfl rfl u_67 sz_86 (by omega) (idx_map hj2) rfl) ?_
        refine sa_take 7 rfl rfl (by kernel_rfl) (by kernel_rfl) (by kernel_rfl) exacts_nil (pu_load_rpn rfl rfl ag_86 sz_86 (Nat.le_of_ble_eq_true rfl)) ?_
        refine sa_take 8 rfl rfl (by kernel_rfl) (by kernel_rfl) (by kernel_rfl) exacts_nil (pu_struct_ne rfl rfl rfl ag_86 eg_86 ek_86 rfl) ?_
        refine sa_done (by kernel_rfl) ?_
        refine sw_cond rfl (fun he => ?_) (fun he => ?_)
        · refine sw_seq ?_
          refine sl_region ?_
          refine sl_as rfl rfl rfl ?_
          refine sl_nil ?_
          refine sw_ret ⟨rfl, _, _, res_one rfl rfl, ?_, ⟨dec_ff (fun e => by rw [alm_cmp] at he; subst e; simp at he), rfl⟩⟩
          repeat (first | exact Sub.refl _ | exact Sub.none _ | refine Sub.p0 ?_ | refine Sub.p1 ?_ | refine Sub.p2 ?_ | refine Sub.p3 ?_ | refine Sub.p4 ?_ | refine Sub.p5 ?_ | refine Sub.p6 ?_ | refine Sub.drop ?_)
        · refine sw_skip ?_
          refine sl_region ?_
          refine sl_mv rfl rfl rfl ?_
          first
            | refine sl_inc rfl rfl rfl rfl (by omega) ?_
            | refine sl_add rfl rfl rfl rfl (by constructor <;> omega) ?_
            | refine sl_bin rfl rfl rfl rfl rfl ?_
          refine sl_as rfl rfl rfl ?_
          refine sl_nil ?_
          refine ⟨_, by omega, _, _, ?_, ?_, i + 1, rfl, rfl, rfl, rfl, by omega, all_two hall hj1 hj2 (by rw [alm_cmp] at he; simpa using he)⟩
          · refine ⟨rfl, ?_⟩; repeat (first | exact WkL.nil | refine WkL.cons (Weak.refl _) ?_ | refine WkL.cons (Weak.toV rfl) ?_ | refine WkL.cons (Weak.ref _) ?_ | refine WkL.cons (Weak.rp_agg _) ?_)
          · repeat (first | exact Sub.refl _ | exact Sub.none _ | refine Sub.p0 ?_ | refine Sub.p1 ?_ | refine Sub.p2 ?_ | refine Sub.p3 ?_ | refine Sub.p4 ?_ | refine Sub.p5 ?_ | refine Sub.p6 ?_ | refine Sub.drop ?_)
      · have hj1 : i = a.length := by have := of_decide_eq_false hj; rw [List.length_map] at this; omega
        refine sw_exit ?_
        refine sw_seq ?_
        refine sl_region ?_
        refine sl_as rfl rfl rfl ?_
        refine sl_nil ?_
        refine sw_ret ⟨rfl, _, _, res_one rfl rfl, ?_, ⟨dec_tt (list_eq_all hl1 fun k h1 h2 => hall k h1 h2 (by omega)), rfl⟩⟩
        repeat (first | exact Sub.refl _ | exact Sub.none _ | refine Sub.p0 ?_ | refine Sub.p1 ?_ | refine Sub.p2 ?_ | refine Sub.p3 ?_ | refine Sub.p4 ?_ | refine Sub.p5 ?_ | refine Sub.p6 ?_ | refine Sub.drop ?_)

/-- Summaries held against one another. -/
theorem hsumm_ok (a b : Smy) (σ : List Chunk) (hsm : a.alarms.length ≤ 100000000 ∧ a.mod.length ≤ 100000000) :
    FSpec Try.prog 44 [.val (smyV a), .val (smyV b)] σ (fun d σ' => d = .val (.bool (decide (a = b))) ∧ σ' = σ) := by
  refine spec_of_sw Try.func44 rfl ?_
  refine sw_seq ?_
  refine sl_region ?_
  refine sl_bx_imm rfl rfl rfl rfl rfl ?_
  refine sl_bx_imm rfl rfl rfl rfl rfl ?_
  refine sl_as rfl rfl rfl ?_
  refine sl_nil ?_
  refine sw_seq ?_
  refine sw_seq ?_
  refine sl_region ?_
  first
    | refine sl_fieldAddr_ptr rfl rfl rfl fo_72_1 ?_
    | refine sl_fieldAddr_rp rfl rfl rfl fo_72_1 ?_
    | refine sl_fieldAddr_ref rfl rfl rfl fo_72_1 ?_
  first
    | refine sl_load_rp1 rfl rfl rfl ag_4 rfl ?_
    | refine sl_load_blk1 rfl rfl rfl ag_4 (by first | exact List.Mem.head _ | exact List.Mem.tail _ (List.Mem.head _) | exact List.Mem.tail _ (List.Mem.tail _ (List.Mem.head _)) | exact List.Mem.tail _ (List.Mem.tail _ (List.Mem.tail _ (List.Mem.head _))) | exact List.Mem.tail _ (List.Mem.tail _ (List.Mem.tail _ (List.Mem.tail _ (List.Mem.head _)))) | exact List.Mem.tail _ (List.Mem.tail _ (List.Mem.tail _ (List.Mem.tail _ (List.Mem.tail _ (List.Mem.head _)))))) rfl ?_
  first
    | refine sl_fieldAddr_ptr rfl rfl rfl fo_72_1 ?_
    | refine sl_fieldAddr_rp rfl rfl rfl fo_72_1 ?_
    | refine sl_fieldAddr_ref rfl rfl rfl fo_72_1 ?_
  first
    | refine sl_load_rp1 rfl rfl rfl ag_4 rfl ?_
    | refine sl_load_blk1 rfl rfl rfl ag_4 (by first | exact List.Mem.head _ | exact List.Mem.tail _ (List.Mem.head _) | exact List.Mem.tail _ (List.Mem.tail _ (List.Mem.head _)) | exact List.Mem.tail _ (List.Mem.tail _ (List.Mem.tail _ (List.Mem.head _))) | exact List.Mem.tail _ (List.Mem.tail _ (List.Mem.tail _ (List.Mem.tail _ (List.Mem.head _)))) | exact List.Mem.tail _ (List.Mem.tail _ (List.Mem.tail _ (List.Mem.tail _ (List.Mem.tail _ (List.Mem.head _)))))) rfl ?_
  refine sl_bool_ne rfl rfl rfl rfl u_4 ?_
  refine sl_mv rfl rfl rfl ?_
  refine sl_case_at 11 rfl (fun h1 => ?_) (fun h1 => ?_)
  · refine sl_guard_n rfl rfl rfl h1 ?_
    refine sl_guard_n rfl rfl rfl h1 ?_
    refine sl_guard_n rfl rfl rfl h1 ?_
    refine sl_guard_n rfl rfl rfl h1 ?_
    refine sl_guard_n rfl rfl rfl h1 ?_
    refine sl_pk_t rfl rfl rfl h1 rfl ?_
    refine sl_mv rfl rfl rfl ?_
    refine sl_guard_n rfl rfl rfl (rfl) ?_
    refine sl_guard_n rfl rfl rfl (rfl) ?_
    refine sl_guard_n rfl rfl rfl (rfl) ?_
    refine sl_guard_n rfl rfl rfl (rfl) ?_
    refine sl_guard_n rfl rfl rfl (rfl) ?_
    refine sl_guard_n rfl rfl rfl (rfl) ?_
    refine sl_pk_t rfl rfl rfl (rfl) rfl ?_
    refine sl_mv rfl rfl rfl ?_
    refine sl_guard_n rfl rfl rfl (rfl) ?_
    refine sl_guard_n rfl rfl rfl (rfl) ?_
    refine sl_guard_n rfl rfl rfl (rfl) ?_
    refine sl_guard_n rfl rfl rfl (rfl) ?_
    refine sl_guard_n rfl rfl rfl (rfl) ?_
    refine sl_guard_n rfl rfl rfl (rfl) ?_
    refine sl_guard_n rfl rfl rfl (rfl) ?_
    refine sl_pk_t rfl rfl rfl (rfl) rfl ?_
    refine sl_nil ?_
    refine sw_true rfl (rfl) ?_
    refine sw_seq ?_
    refine sl_region ?_
    refine sl_as rfl rfl rfl ?_
    refine sl_nil ?_
    refine sw_ret ⟨rfl, _, _, res_one rfl rfl, ?_, ⟨dec_ff (fun e => by subst e; simp at h1), rfl⟩⟩
    repeat (first | exact Sub.refl _ | exact Sub.none _ | refine Sub.p0 ?_ | refine Sub.p1 ?_ | refine Sub.p2 ?_ | refine Sub.p3 ?_ | refine Sub.p4 ?_ | refine Sub.p5 ?_ | refine Sub.p6 ?_ | refine Sub.drop ?_)
  · refine sl_guard_y rfl rfl rfl h1 ?_
    first
      | refine sl_fieldAddr_ptr rfl rfl rfl fo_72_2 ?_
      | refine sl_fieldAddr_rp rfl rfl rfl fo_72_2 ?_
      | refine sl_fieldAddr_ref rfl rfl rfl fo_72_2 ?_
    refine sl_guard_y rfl rfl rfl h1 ?_
    first
      | refine sl_load_rpn rfl rfl rfl ag_69 sz_69 (Nat.le_of_ble_eq_true rfl) ?_
      | refine sl_load_blkn rfl rfl rfl ag_69 sz_69 (by first | exact List.Mem.head _ | exact List.Mem.tail _ (List.Mem.head _) | exact List.Mem.tail _ (List.Mem.tail _ (List.Mem.head _)) | exact List.Mem.tail _ (List.Mem.tail _ (List.Mem.tail _ (List.Mem.head _))) | exact List.Mem.tail _ (List.Mem.tail _ (List.Mem.tail _ (List.Mem.tail _ (List.Mem.head _)))) | exact List.Mem.tail _ (List.Mem.tail _ (List.Mem.tail _ (List.Mem.tail _ (List.Mem.tail _ (List.Mem.head _)))))) (Nat.le_of_ble_eq_true rfl) ?_
      | refine sl_load_ref rfl rfl rfl ag_69 sz_69 (Nat.le_of_ble_eq_true rfl) ?_
    refine sl_guard_y rfl rfl rfl h1 ?_
    first
      | refine sl_fieldAddr_ptr rfl rfl rfl fo_72_2 ?_
      | refine sl_fieldAddr_rp rfl rfl rfl fo_72_2 ?_
      | refine sl_fieldAddr_ref rfl rfl rfl fo_72_2 ?_
    refine sl_guard_y rfl rfl rfl h1 ?_
    first
      | refine sl_load_rpn rfl rfl rfl ag_69 sz_69 (Nat.le_of_ble_eq_true rfl) ?_
      | refine sl_load_blkn rfl rfl rfl ag_69 sz_69 (by first | exact List.Mem.head _ | exact List.Mem.tail _ (List.Mem.head _) | exact List.Mem.tail _ (List.Mem.tail _ (List.Mem.head _)) | exact List.Mem.tail _ (List.Mem.tail _ (List.Mem.tail _ (List.Mem.head _))) | exact List.Mem.tail _ (List.Mem.tail _ (List.Mem.tail _ (List.Mem.tail _ (List.Mem.head _)))) | exact List.Mem.tail _ (List.Mem.tail _ (List.Mem.tail _ (List.Mem.tail _ (List.Mem.tail _ (List.Mem.head _)))))) (Nat.le_of_ble_eq_true rfl) ?_
      | refine sl_load_ref rfl rfl rfl ag_69 sz_69 (Nat.le_of_ble_eq_true rfl) ?_
    refine sl_guard_y rfl rfl rfl h1 ?_
    refine sl_struct_ne rfl rfl rfl rfl ag_69 eg_69 ek_69 rfl ?_
    refine sl_pk_f rfl rfl rfl h1 rfl ?_
    refine sl_mv rfl rfl rfl ?_
    refine sl_case_at 18 rfl (fun h2 => ?_) (fun h2 => ?_)
    · refine sl_guard_n rfl rfl rfl h2 ?_
      refine sl_guard_n rfl rfl rfl h2 ?_
      refine sl_guard_n rfl rfl rfl h2 ?_
      refine sl_guard_n rfl rfl rfl h2 ?_
      refine sl_guard_n rfl rfl rfl h2 ?_
      refine sl_guard_n rfl rfl rfl h2 ?_
      refine sl_pk_t rfl rfl rfl h2 rfl ?_
      refine sl_mv rfl rfl rfl ?_
      refine sl_guard_n rfl rfl rfl (rfl) ?_
      refine sl_guard_n rfl rfl rfl (rfl) ?_
      refine sl_guard_n rfl rfl rfl (rfl) ?_
      refine sl_guard_n rfl rfl rfl (rfl) ?_
      refine sl_guard_n rfl rfl rfl (rfl) ?_
      refine sl_guard_n rfl rfl rfl (rfl) ?_
      refine sl_guard_n rfl rfl rfl (rfl) ?_
      refine sl_pk_t rfl rfl rfl (rfl) rfl ?_
      refine sl_nil ?_
      refine sw_true rfl (rfl) ?_
      refine sw_seq ?_
      refine sl_region ?_
      refine sl_as rfl rfl rfl ?_
      refine sl_nil ?_
      refine sw_ret ⟨rfl, _, _, res_one rfl rfl, ?_, ⟨dec_ff (fun e => by subst e; simp at h2), rfl⟩⟩
      repeat (first | exact Sub.refl _ | exact Sub.none _ | refine Sub.p0 ?_ | refine Sub.p1 ?_ | refine Sub.p2 ?_ | refine Sub.p3 ?_ | refine Sub.p4 ?_ | refine Sub.p5 ?_ | refine Sub.p6 ?_ | refine Sub.drop ?_)
    · refine sl_guard_y rfl rfl rfl h2 ?_
      first
        | refine sl_fieldAddr_ptr rfl rfl rfl fo_72_0 ?_
        | refine sl_fieldAddr_rp rfl rfl rfl fo_72_0 ?_
        | refine sl_fieldAddr_ref rfl rfl rfl fo_72_0 ?_
      refine sl_guard_y rfl rfl rfl h2 ?_
      first
        | refine sl_load_rp1 rfl rfl rfl ag_67 rfl ?_
        | refine sl_load_blk1 rfl rfl rfl ag_67 (by first | exact List.Mem.head _ | exact List.Mem.tail _ (List.Mem.head _) | exact List.Mem.tail _ (List.Mem.tail _ (List.Mem.head _)) | exact List.Mem.tail _ (List.Mem.tail _ (List.Mem.tail _ (List.Mem.head _))) | exact List.Mem.tail _ (List.Mem.tail _ (List.Mem.tail _ (List.Mem.tail _ (List.Mem.head _)))) | exact List.Mem.tail _ (List.Mem.tail _ (List.Mem.tail _ (List.Mem.tail _ (List.Mem.tail _ (List.Mem.head _)))))) rfl ?_
      refine sl_guard_y rfl rfl rfl h2 ?_
      first
        | refine sl_fieldAddr_ptr rfl rfl rfl fo_72_0 ?_
        | refine sl_fieldAddr_rp rfl rfl rfl fo_72_0 ?_
        | refine sl_fieldAddr_ref rfl rfl rfl fo_72_0 ?_
      refine sl_guard_y rfl rfl rfl h2 ?_
      first
        | refine sl_load_rp1 rfl rfl rfl ag_67 rfl ?_
        | refine sl_load_blk1 rfl rfl rfl ag_67 (by first | exact List.Mem.head _ | exact List.Mem.tail _ (List.Mem.head _) | exact List.Mem.tail _ (List.Mem.tail _ (List.Mem.head _)) | exact List.Mem.tail _ (List.Mem.tail _ (List.Mem.tail _ (List.Mem.head _))) | exact List.Mem.tail _ (List.Mem.tail _ (List.Mem.tail _ (List.Mem.tail _ (List.Mem.head _)))) | exact List.Mem.tail _ (List.Mem.tail _ (List.Mem.tail _ (List.Mem.tail _ (List.Mem.tail _ (List.Mem.head _)))))) rfl ?_
      refine sl_guard_y rfl rfl rfl h2 ?_
      refine sl_callf rfl rfl cal_83 (halarms_ok a.alarms b.alarms σ hsm.1) ?_ ?_ ?_ (fun _ _ h => h.elim)
      · repeat (first | exact Weaks.nil | refine Weaks.cons (Weak.junk _) ?_ | refine Weaks.cons (Weak.refl _) ?_ | refine Weaks.cons (Weak.toV rfl) ?_ | refine Weaks.cons (Weak.ref _) ?_ | refine Weaks.cons (Weak.rp_agg _) ?_)
      · repeat (first | exact Sub.refl _ | exact Sub.none _ | refine Sub.p0 ?_ | refine Sub.p1 ?_ | refine Sub.p2 ?_ | refine Sub.p3 ?_ | refine Sub.p4 ?_ | refine Sub.p5 ?_ | refine Sub.p6 ?_ | refine Sub.drop ?_)
      rintro _ _ ⟨rfl, hσ⟩
      have hσ' := hσ.symm
      subst hσ'
      refine sl_guard_y rfl rfl rfl h2 ?_
      refine sl_not rfl rfl rfl ?_
      refine sl_pk_f rfl rfl rfl h2 rfl ?_
      refine sl_mv rfl rfl rfl ?_
      refine sl_case_at 26 rfl (fun h3 => ?_) (fun h3 => ?_)
      · refine sl_guard_n rfl rfl rfl h3 ?_
        refine sl_guard_n rfl rfl rfl h3 ?_
        refine sl_guard_n rfl rfl rfl h3 ?_
        refine sl_guard_n rfl rfl rfl h3 ?_
        refine sl_guard_n rfl rfl rfl h3 ?_
        refine sl_guard_n rfl rfl rfl h3 ?_
        refine sl_guard_n rfl rfl rfl h3 ?_
        refine sl_pk_t rfl rfl rfl h3 rfl ?_
        refine sl_nil ?_
        refine sw_true rfl (rfl) ?_
        refine sw_seq ?_
        refine sl_region ?_
        refine sl_as rfl rfl rfl ?_
        refine sl_nil ?_
        refine sw_ret ⟨rfl, _, _, res_one rfl rfl, ?_, ⟨dec_ff (fun e => by subst e; simp at h3), rfl⟩⟩
        repeat (first | exact Sub.refl _ | exact Sub.none _ | refine Sub.p0 ?_ | refine Sub.p1 ?_ | refine Sub.p2 ?_ | refine Sub.p3 ?_ | refine Sub.p4 ?_ | refine Sub.p5 ?_ | refine Sub.p6 ?_ | refine Sub.drop ?_)
      · refine sl_guard_y rfl rfl rfl h3 ?_
        first
          | refine sl_fieldAddr_ptr rfl rfl rfl fo_72_3 ?_
          | refine sl_fieldAddr_rp rfl rfl rfl fo_72_3 ?_
          | refine sl_fieldAddr_ref rfl rfl rfl fo_72_3 ?_
        refine sl_guard_y rfl rfl rfl h3 ?_
        first
          | refine sl_load_rp1 rfl rfl rfl ag_70 rfl ?_
          | refine sl_load_blk1 rfl rfl rfl ag_70 (by first | exact List.Mem.head _ | exact List.Mem.tail _ (List.Mem.head _) | exact List.Mem.tail _ (List.Mem.tail _ (List.Mem.head _)) | exact List.Mem.tail _ (List.Mem.tail _ (List.Mem.tail _ (List.Mem.head _))) | exact List.Mem.tail _ (List.Mem.tail _ (List.Mem.tail _ (List.Mem.tail _ (List.Mem.head _)))) | exact List.Mem.tail _ (List.Mem.tail _ (List.Mem.tail _ (List.Mem.tail _ (List.Mem.tail _ (List.Mem.head _)))))) rfl ?_
        refine sl_guard_y rfl rfl rfl h3 ?_
        first
          | refine sl_len rfl rfl rfl ⟨_, u_70⟩ ?_
          | refine sl_len_sl rfl rfl rfl ⟨_, u_70⟩ ?_
        refine sl_guard_y rfl rfl rfl h3 ?_
        first
          | refine sl_fieldAddr_ptr rfl rfl rfl fo_72_3 ?_
          | refine sl_fieldAddr_rp rfl rfl rfl fo_72_3 ?_
          | refine sl_fieldAddr_ref rfl rfl rfl fo_72_3 ?_
        refine sl_guard_y rfl rfl rfl h3 ?_
        first
          | refine sl_load_rp1 rfl rfl rfl ag_70 rfl ?_
          | refine sl_load_blk1 rfl rfl rfl ag_70 (by first | exact List.Mem.head _ | exact List.Mem.tail _ (List.Mem.head _) | exact List.Mem.tail _ (List.Mem.tail _ (List.Mem.head _)) | exact List.Mem.tail _ (List.Mem.tail _ (List.Mem.tail _ (List.Mem.head _))) | exact List.Mem.tail _ (List.Mem.tail _ (List.Mem.tail _ (List.Mem.tail _ (List.Mem.head _)))) | exact List.Mem.tail _ (List.Mem.tail _ (List.Mem.tail _ (List.Mem.tail _ (List.Mem.tail _ (List.Mem.head _)))))) rfl ?_
        refine sl_guard_y rfl rfl rfl h3 ?_
        first
          | refine sl_len rfl rfl rfl ⟨_, u_70⟩ ?_
          | refine sl_len_sl rfl rfl rfl ⟨_, u_70⟩ ?_
        refine sl_guard_y rfl rfl rfl h3 ?_
        refine sl_bin rfl rfl rfl rfl rfl ?_
        refine sl_pk_f rfl rfl rfl h3 rfl ?_
        refine sl_nil ?_
        refine sw_cond rfl (fun hl => ?_) (fun hl => ?_)
        · have hl1 : a.mod.length ≠ b.mod.length := len_ne hl
          refine sw_seq ?_
          refine sl_region ?_
          refine sl_as rfl rfl rfl ?_
          refine sl_nil ?_
          refine sw_ret ⟨rfl, _, _, res_one rfl rfl, ?_, ⟨dec_ff (fun e => hl1 (by rw [e])), rfl⟩⟩
          repeat (first | exact Sub.refl _ | exact Sub.none _ | refine Sub.p0 ?_ | refine Sub.p1 ?_ | refine Sub.p2 ?_ | refine Sub.p3 ?_ | refine Sub.p4 ?_ | refine Sub.p5 ?_ | refine Sub.p6 ?_ | refine Sub.drop ?_)
        · have hl1 : a.mod.length = b.mod.length := len_nn hl
          refine sw_skip ?_
          refine sw_seq ?_
          refine sw_seq ?_
          refine sl_region ?_
          refine sl_as rfl rfl rfl ?_
          refine sl_nil ?_
          refine sw_block ?_
          refine sw_loopw (fun nX sX δX σX => ∃ (i : Nat), (a.mod.length - i) = nX ∧ sX = ⟨53, (.cons 2 (.rp ((smyCells a))) (.cons 3 (.rp ((smyCells b))) (.cons 5 (.val (.int .i64 (i : Int))) .nil)))⟩ ∧ δX = [] ∧ σX = σ ∧ i ≤ a.mod.length ∧ ∀ k (h1 : k < a.mod.length) (h2 : k < b.mod.length), k < i → a.mod[k] = b.mod[k]) ?_ ?_
          · refine ⟨_, _, _, ?_, ?_, 0, rfl, rfl, rfl, rfl, Nat.zero_le _, fun k h1 h2 h => absurd h (Nat.not_lt_zero k)⟩
            · refine ⟨rfl, ?_⟩; repeat (first | exact WkL.nil | refine WkL.cons (Weak.refl _) ?_ | refine WkL.cons (Weak.toV rfl) ?_ | refine WkL.cons (Weak.ref _) ?_ | refine WkL.cons (Weak.rp_agg _) ?_)
            · repeat (first | exact Sub.refl _ | exact Sub.none _ | refine Sub.p0 ?_ | refine Sub.p1 ?_ | refine Sub.p2 ?_ | refine Sub.p3 ?_ | refine Sub.p4 ?_ | refine Sub.p5 ?_ | refine Sub.p6 ?_ | refine Sub.drop ?_)
          · rintro nX sX δX σX ⟨i, rfl, rfl, rfl, rfl, hi, hall⟩
            refine sw_seq ?_
            refine sw_seq ?_
            refine sl_region ?_
            refine sl_mv rfl rfl rfl ?_
            first
              | refine sl_fieldAddr_ptr rfl rfl rfl fo_72_3 ?_
              | refine sl_fieldAddr_rp rfl rfl rfl fo_72_3 ?_
              | refine sl_fieldAddr_ref rfl rfl rfl fo_72_3 ?_
            first
              | refine sl_load_rp1 rfl rfl rfl ag_70 rfl ?_
              | refine sl_load_blk1 rfl rfl rfl ag_70 (by first | exact List.Mem.head _ | exact List.Mem.tail _ (List.Mem.head _) | exact List.Mem.tail _ (List.Mem.tail _ (List.Mem.head _)) | exact List.Mem.tail _ (List.Mem.tail _ (List.Mem.tail _ (List.Mem.head _))) | exact List.Mem.tail _ (List.Mem.tail _ (List.Mem.tail _ (List.Mem.tail _ (List.Mem.head _)))) | exact List.Mem.tail _ (List.Mem.tail _ (List.Mem.tail _ (List.Mem.tail _ (List.Mem.tail _ (List.Mem.head _)))))) rfl ?_
            first
              | refine sl_len rfl rfl rfl ⟨_, u_70⟩ ?_
              | refine sl_len_sl rfl rfl rfl ⟨_, u_70⟩ ?_
            refine sl_bin rfl rfl rfl rfl rfl ?_
            refine sl_nil ?_
            refine sw_cond rfl (fun hj => ?_) (fun hj => ?_)
            · have hj1 : i < a.mod.length := by have := of_decide_eq_true hj; rw [List.length_map] at this; omega
              have hj2 : i < b.mod.length := by omega
              refine sw_skip ?_
              refine sw_seq ?_
              refine sw_block ?_
              refine sw_seq ?_
              refine sa_start [] mixed ?_
              first
                | refine sa_take 0 rfl rfl (by kernel_rfl) (by kernel_rfl) (by kernel_rfl) exacts_nil (pu_fieldAddr_ptr rfl rfl fo_72_3) ?_
                | refine sa_take 0 rfl rfl (by kernel_rfl) (by kernel_rfl) (by kernel_rfl) exacts_nil (pu_fieldAddr_rp rfl rfl fo_72_3) ?_
                | refine sa_take 0 rfl rfl (by kernel_rfl) (by kernel_rfl) (by kernel_rfl) exacts_nil (pu_fieldAddr_ref rfl rfl fo_72_3) ?_
              refine sa_take 1 rfl rfl (by kernel_rfl) (by kernel_rfl) (by kernel_rfl) exacts_nil (pu_load_rp1 rfl rfl ag_70 rfl) ?_
              refine sa_take 2 rfl rfl (by kernel_rfl) (by kernel_rfl) (by kernel_rfl) exacts_nil (pu_mv rfl rfl) ?_
              refine sa_take 3 rfl rfl (by kernel_rfl) (by kernel_rfl) (by kernel_rfl) exacts_nil (pu_indexAddr rfl rfl rfl u_70 sz_127 (by omega) (idx_map hj1) rfl) ?_
              refine sa_take 4 rfl rfl (by kernel_rfl) (by kernel_rfl) (by kernel_rfl) exacts_nil (pu_load_rpn rfl rfl ag_127 sz_127 (Nat.le_of_ble_eq_true rfl)) ?_
              first
                | refine sa_take 5 rfl rfl (by kernel_rfl) (by kernel_rfl) (by kernel_rfl) exacts_nil (pu_fieldAddr_ptr rfl rfl fo_72_3) ?_
                | refine sa_take 5 rfl rfl (by kernel_rfl) (by kernel_rfl) (by kernel_rfl) exacts_nil (pu_fieldAddr_rp rfl rfl fo_72_3) ?_
                | refine sa_take 5 rfl rfl (by kernel_rfl) (by kernel_rfl) (by kernel_rfl) exacts_nil (pu_fieldAddr_ref rfl rfl fo_72_3) ?_
              refine sa_take 6 rfl rfl (by kernel_rfl) (by kernel_rfl) (by kernel_rfl) exacts_nil (pu_load_rp1 rfl rfl ag_70 rfl) ?_
              refine sa_take 7 rfl rfl (by kernel_rfl) (by kernel_rfl) (by kernel_rfl) exacts_nil (pu_mv rfl rfl) ?_
              refine sa_take 8 rfl rfl (by kernel_rfl) (by kernel_rfl) (by kernel_rfl) exacts_nil (pu_indexAddr rfl rfl rfl u_70 sz_127 (by omega) (idx_map hj2) rfl) ?_
              refine sa_take 9 rfl rfl (by kernel_rfl) (by kernel_rfl) (by kernel_rfl) exacts_nil (pu_load_rpn rfl rfl ag_127 sz_127 (Nat.le_of_ble_eq_true rfl)) ?_
              refine sa_take 10 rfl rfl (by kernel_rfl) (by kernel_rfl) (by kernel_rfl) exacts_nil (pu_struct_ne rfl rfl rfl ag_127 eg_127 ek_127 rfl) ?_
              refine sa_done (by kernel_rfl) ?_
              refine sw_cond rfl (fun he => ?_) (fun he => ?_)
              · refine sw_seq ?_
                refine sl_region ?_
                refine sl_as rfl rfl rfl ?_
                refine sl_nil ?_
                refine sw_ret ⟨rfl, _, _, res_one rfl rfl, ?_, ⟨dec_ff (fun e => by rw [nmd_cmp] at he; subst e; simp at he), rfl⟩⟩
                repeat (first | exact Sub.refl _ | exact Sub.none _ | refine Sub.p0 ?_ | refine Sub.p1 ?_ | refine Sub.p2 ?_ | refine Sub.p3 ?_ | refine Sub.p4 ?_ | refine Sub.p5 ?_ | refine Sub.p6 ?_ | refine Sub.drop ?_)
              · refine sw_skip ?_
                refine sl_region ?_
                refine sl_mv rfl rfl rfl ?_
                first
                  | refine sl_inc rfl rfl rfl rfl (by omega) ?_
                  | refine sl_add rfl rfl rfl rfl (by constructor <;> omega) ?_
                  | refine sl_bin rfl rfl rfl rfl rfl ?_
                refine sl_as rfl rfl rfl ?_
                refine sl_nil ?_
                refine ⟨_, by omega, _, _, ?_, ?_, i + 1, rfl, rfl, rfl, rfl, by omega, all_two hall hj1 hj2 (by rw [nmd_cmp] at he; simpa using he)⟩
                · refine ⟨rfl, ?_⟩; repeat (first | exact WkL.nil | refine WkL.cons (Weak.refl _) ?_ | refine WkL.cons (Weak.toV rfl) ?_ | refine WkL.cons (Weak.ref _) ?_ | refine WkL.cons (Weak.rp_agg _) ?_)
                · repeat (first | exact Sub.refl _ | exact Sub.none _ | refine Sub.p0 ?_ | refine Sub.p1 ?_ | refine Sub.p2 ?_ | refine Sub.p3 ?_ | refine Sub.p4 ?_ | refine Sub.p5 ?_ | refine Sub.p6 ?_ | refine Sub.drop ?_)
            · have hj1 : i = a.mod.length := by have := of_decide_eq_false hj; rw [List.length_map] at this; omega
              refine sw_exit ?_
              refine sw_seq ?_
              refine sl_region ?_
              refine sl_as rfl rfl rfl ?_
              refine sl_nil ?_
              refine sw_ret ⟨rfl, _, _, res_one rfl rfl, ?_, ⟨dec_tt (smy_eq (by simpa using h1) (by rw [ivl_cmp] at h2; simpa using h2) (by simpa using h3) (list_eq_all hl1 fun k h1 h2 => hall k h1 h2 (by omega))), rfl⟩⟩
              repeat (first | exact Sub.refl _ | exact Sub.none _ | refine Sub.p0 ?_ | refine Sub.p1 ?_ | refine Sub.p2 ?_ | refine Sub.p3 ?_ | refine Sub.p4 ?_ | refine Sub.p5 ?_ | refine Sub.p6 ?_ | refine Sub.drop ?_)

end Go.Proofs.Ytioechdfghglhaa
