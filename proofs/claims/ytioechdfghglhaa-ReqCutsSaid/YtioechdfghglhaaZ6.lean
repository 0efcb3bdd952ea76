/- Merged: the program logic, plain laws and walks (each part's first row says what it is); no conditions of its own. -/
import Derived.Test.YtioechdfghglhaaZ4
import Derived.Test.YtioechdfghglhaaZ3
import Derived.Test.YtioechdfghglhaaZ5

/- Walks: printed by a program of this session out of its script CodeS. -/
namespace Go.Proofs.Ytioechdfghglhaa
set_option linter.unusedVariables false
set_option linter.unusedSimpArgs false
set_option maxRecDepth 4000
set_option maxHeartbeats 4000000
open Go Go.RowKit SL


/-- Alarms held against one another. -/
theorem halarms_ok (a b : List Alm) (σ : List Chunk) (hsm : a.length ≤ 100000000) :
    FSpec Try.prog 83 [.val (.list (a.map almV)), .val (.list (b.map almV))] σ (fun d σ' => d = .val (.bool (decide (a = b))) ∧ σ' = σ) := by
  refine spec_of_sw Try.func83 rfl ?_
  refine sw_seq ?_
  refine sl_region ?_
  refine sl_as rfl rfl rfl ?_
  refine sl_nil ?_
  refine sw_seq ?_
  refine sw_seq ?_
  refine sl_region ?_
  refine sl_mv rfl rfl rfl ?_
  first
    | refine sl_len rfl rfl rfl ⟨_, u_67⟩ ?_
    | refine sl_len_sl rfl rfl rfl ⟨_, u_67⟩ ?_
    | refine sl_len_w _ rfl rfl rfl ⟨_, u_67⟩ ?_
  refine sl_mv rfl rfl rfl ?_
  first
    | refine sl_len rfl rfl rfl ⟨_, u_67⟩ ?_
    | refine sl_len_sl rfl rfl rfl ⟨_, u_67⟩ ?_
    | refine sl_len_w _ rfl rfl rfl ⟨_, u_67⟩ ?_
  refine sl_bin rfl rfl rfl rfl rfl ?_
  refine sl_nil ?_
  refine sw_cond rfl (fun hl => ?_) (fun hl => ?_)
  · have hl1 : a.length ≠ b.length := len_ne hl
    refine sw_seq ?_
    refine sl_region ?_
    refine sl_as rfl rfl rfl ?_
    refine sl_nil ?_
    refine sw_ret ⟨rfl, _, _, res_one rfl rfl, ?_, ⟨dec_ff (fun e => hl1 (by rw [e])), rfl⟩⟩
    repeat constructor
  have hl1 : a.length = b.length := len_nn hl
  refine sw_skip ?_
  refine sw_seq ?_
  refine sw_seq ?_
  refine sl_region ?_
  refine sl_as rfl rfl rfl ?_
  refine sl_nil ?_
  refine sw_block ?_
  refine sw_loopw (fun nX sX δX σX => ∃ (i : Nat), (a.length - i) = nX ∧ sX = ⟨26, (.cons 0 (.val (.list (a.map almV))) (.cons 1 (.val (.list (b.map almV))) (.cons 5 (.val (.int .i64 (i : Int))) .nil)))⟩ ∧ δX = [] ∧ σX = σ ∧ (i ≤ a.length) ∧ (∀ k (h1 : k < a.length) (h2 : k < b.length), k < i → a[k] = b[k])) ?_ ?_
  · refine ⟨_, _, _, ?_, ?_, 0, rfl, rfl, rfl, rfl, Nat.zero_le _, fun k h1 h2 h => absurd h (Nat.not_lt_zero k)⟩
    · exact ⟨rfl, by repeat constructor⟩
    · repeat constructor
  rintro nX sX δX σX ⟨i, rfl, rfl, rfl, rfl, hi, hall⟩
  refine sw_seq ?_
  refine sw_seq ?_
  refine sl_region ?_
  refine sl_mv rfl rfl rfl ?_
  refine sl_mv rfl rfl rfl ?_
  first
    | refine sl_len rfl rfl rfl ⟨_, u_67⟩ ?_
    | refine sl_len_sl rfl rfl rfl ⟨_, u_67⟩ ?_
    | refine sl_len_w _ rfl rfl rfl ⟨_, u_67⟩ ?_
  refine sl_bin rfl rfl rfl rfl rfl ?_
  refine sl_nil ?_
  refine sw_cond rfl (fun hj => ?_) (fun hj => ?_)
  · have hj1 : i < a.length := by have := of_decide_eq_true hj; rw [List.length_map] at this; omega
    have hj2 : i < b.length := by omega
    refine sw_skip ?_
    refine sw_seq ?_
    refine sw_block ?_
    refine sw_seq ?_
    refine sa_start [] mixed ?_
    refine sa_take 0 rfl rfl (by kernel_rfl) .nil (pu_mv rfl rfl) ?_
    refine sa_take 1 rfl rfl (by kernel_rfl) .nil (pu_mv rfl rfl) ?_
    refine sa_take 2 rfl rfl (by kernel_rfl) .nil (pu_indexAddr rfl rfl rfl u_67 sz_86 (by omega) (idx_map hj1) rfl) ?_
    refine sa_take 3 rfl rfl (by kernel_rfl) .nil (pu_load_rpn rfl rfl ag_86 sz_86 (Nat.le_of_ble_eq_true rfl)) ?_
    refine sa_take 4 rfl rfl (by kernel_rfl) .nil (pu_mv rfl rfl) ?_
    refine sa_take 5 rfl rfl (by kernel_rfl) .nil (pu_mv rfl rfl) ?_
    refine sa_take 6 rfl rfl (by kernel_rfl) .nil (pu_indexAddr rfl rfl rfl u_67 sz_86 (by omega) (idx_map hj2) rfl) ?_
    refine sa_take 7 rfl rfl (by kernel_rfl) .nil (pu_load_rpn rfl rfl ag_86 sz_86 (Nat.le_of_ble_eq_true rfl)) ?_
    refine sa_take 8 rfl rfl (by kernel_rfl) .nil (pu_struct_ne rfl rfl rfl ag_86 eg_86 ek_86 rfl) ?_
    refine sa_done (by kernel_rfl) ?_
    refine sw_cond rfl (fun he => ?_) (fun he => ?_)
    · refine sw_seq ?_
      refine sl_region ?_
      refine sl_as rfl rfl rfl ?_
      refine sl_nil ?_
      refine sw_ret ⟨rfl, _, _, res_one rfl rfl, ?_, ⟨dec_ff (fun e => by rw [alm_cmp] at he; subst e; simp at he), rfl⟩⟩
      repeat constructor
    refine sw_skip ?_
    refine sl_region ?_
    refine sl_mv rfl rfl rfl ?_
    first
      | refine sl_inc rfl rfl rfl rfl (by omega) ?_
      | refine sl_add rfl rfl rfl rfl (by constructor <;> omega) ?_
      | refine sl_bin rfl rfl rfl rfl rfl ?_
    refine sl_as rfl rfl rfl ?_
    refine sl_nil ?_
    refine ⟨_, by omega, _, _, ?_, ?_, i + 1, rfl, rfl, rfl, rfl, by omega, all_two hall hj1 hj2 (by rw [alm_cmp] at he; simpa using he)⟩
    · exact ⟨rfl, by repeat constructor⟩
    · repeat constructor
  have hj1 : i = a.length := by have := of_decide_eq_false hj; rw [List.length_map] at this; omega
  refine sw_exit ?_
  refine sw_seq ?_
  refine sl_region ?_
  refine sl_as rfl rfl rfl ?_
  refine sl_nil ?_
  refine sw_ret ⟨rfl, _, _, res_one rfl rfl, ?_, ⟨dec_tt (list_eq_all hl1 fun k h1 h2 => hall k h1 h2 (by omega)), rfl⟩⟩
  repeat constructor

/-- Summaries held against one another. -/
theorem hsumm_ok (a b : Smy) (σ : List Chunk) (hsm : a.alarms.length ≤ 100000000 ∧ a.mod.length ≤ 100000000) :
    FSpec Try.prog 44 [.val (smyV a), .val (smyV b)] σ (fun d σ' => d = .val (.bool (decide (a = b))) ∧ σ' = σ) := by
  refine spec_of_sw Try.func44 rfl ?_
  refine sw_seq ?_
  refine sl_region ?_
  refine sl_bx_imm rfl rfl rfl rfl rfl ?_
  refine sl_bx_imm rfl rfl rfl rfl rfl ?_
  refine sl_as rfl rfl rfl ?_
  refine sl_nil ?_
  refine sw_seq ?_
  refine sw_seq ?_
  refine sl_region ?_
  first
    | refine sl_fieldAddr_ptr rfl rfl rfl fo_72_1 ?_
    | refine sl_fieldAddr_rp rfl rfl rfl fo_72_1 ?_
    | refine sl_fieldAddr_ref rfl rfl rfl fo_72_1 ?_
  first
    | refine sl_load_rp1 rfl rfl rfl ag_4 rfl ?_
    | refine sl_load_blk1 rfl rfl rfl ag_4 (by repeat constructor) rfl ?_
  first
    | refine sl_fieldAddr_ptr rfl rfl rfl fo_72_1 ?_
    | refine sl_fieldAddr_rp rfl rfl rfl fo_72_1 ?_
    | refine sl_fieldAddr_ref rfl rfl rfl fo_72_1 ?_
  first
    | refine sl_load_rp1 rfl rfl rfl ag_4 rfl ?_
    | refine sl_load_blk1 rfl rfl rfl ag_4 (by repeat constructor) rfl ?_
  refine sl_bool_ne rfl rfl rfl rfl u_4 ?_
  refine sl_mv rfl rfl rfl ?_
  refine sl_case_at 11 rfl (fun h1 => ?_) (fun h1 => ?_)
  · refine sl_guard_n rfl rfl rfl h1 ?_
    refine sl_guard_n rfl rfl rfl h1 ?_
    refine sl_guard_n rfl rfl rfl h1 ?_
    refine sl_guard_n rfl rfl rfl h1 ?_
    refine sl_guard_n rfl rfl rfl h1 ?_
    refine sl_pk_t rfl rfl rfl h1 rfl ?_
    refine sl_mv rfl rfl rfl ?_
    refine sl_guard_n rfl rfl rfl (rfl) ?_
    refine sl_guard_n rfl rfl rfl (rfl) ?_
    refine sl_guard_n rfl rfl rfl (rfl) ?_
    refine sl_guard_n rfl rfl rfl (rfl) ?_
    refine sl_guard_n rfl rfl rfl (rfl) ?_
    refine sl_guard_n rfl rfl rfl (rfl) ?_
    refine sl_pk_t rfl rfl rfl (rfl) rfl ?_
    refine sl_mv rfl rfl rfl ?_
    refine sl_guard_n rfl rfl rfl (rfl) ?_
    refine sl_guard_n rfl rfl rfl (rfl) ?_
    refine sl_guard_n rfl rfl rfl (rfl) ?_
    refine sl_guard_n rfl rfl rfl (rfl) ?_
    refine sl_guard_n rfl rfl rfl (rfl) ?_
    refine sl_guard_n rfl rfl rfl (rfl) ?_
    refine sl_guard_n rfl rfl rfl (rfl) ?_
    refine sl_pk_t rfl rfl rfl (rfl) rfl ?_
    refine sl_nil ?_
    refine sw_true rfl (rfl) ?_
    refine sw_seq ?_
    refine sl_region ?_
    refine sl_as rfl rfl rfl ?_
    refine sl_nil ?_
    refine sw_ret ⟨rfl, _, _, res_one rfl rfl, ?_, ⟨dec_ff (fun e => by subst e; simp at h1), rfl⟩⟩
    repeat constructor
  refine sl_guard_y rfl rfl rfl h1 ?_
  first
    | refine sl_fieldAddr_ptr rfl rfl rfl fo_72_2 ?_
    | refine sl_fieldAddr_rp rfl rfl rfl fo_72_2 ?_
    | refine sl_fieldAddr_ref rfl rfl rfl fo_72_2 ?_
  refine sl_guard_y rfl rfl rfl h1 ?_
  first
    | refine sl_load_rpn rfl rfl rfl ag_69 sz_69 (Nat.le_of_ble_eq_true rfl) ?_
    | refine sl_load_blkn rfl rfl rfl ag_69 sz_69 (by repeat constructor) (Nat.le_of_ble_eq_true rfl) ?_
    | refine sl_load_ref rfl rfl rfl ag_69 sz_69 (Nat.le_of_ble_eq_true rfl) ?_
  refine sl_guard_y rfl rfl rfl h1 ?_
  first
    | refine sl_fieldAddr_ptr rfl rfl rfl fo_72_2 ?_
    | refine sl_fieldAddr_rp rfl rfl rfl fo_72_2 ?_
    | refine sl_fieldAddr_ref rfl rfl rfl fo_72_2 ?_
  refine sl_guard_y rfl rfl rfl h1 ?_
  first
    | refine sl_load_rpn rfl rfl rfl ag_69 sz_69 (Nat.le_of_ble_eq_true rfl) ?_
    | refine sl_load_blkn rfl rfl rfl ag_69 sz_69 (by repeat constructor) (Nat.le_of_ble_eq_true rfl) ?_
    | refine sl_load_ref rfl rfl rfl ag_69 sz_69 (Nat.le_of_ble_eq_true rfl) ?_
  refine sl_guard_y rfl rfl rfl h1 ?_
  refine sl_struct_ne rfl rfl rfl rfl ag_69 eg_69 ek_69 rfl ?_
  refine sl_pk_f rfl rfl rfl h1 rfl ?_
  refine sl_mv rfl rfl rfl ?_
  refine sl_case_at 18 rfl (fun h2 => ?_) (fun h2 => ?_)
  · refine sl_guard_n rfl rfl rfl h2 ?_
    refine sl_guard_n rfl rfl rfl h2 ?_
    refine sl_guard_n rfl rfl rfl h2 ?_
    refine sl_guard_n rfl rfl rfl h2 ?_
    refine sl_guard_n rfl rfl rfl h2 ?_
    refine sl_guard_n rfl rfl rfl h2 ?_
    refine sl_pk_t rfl rfl rfl h2 rfl ?_
    refine sl_mv rfl rfl rfl ?_
    refine sl_guard_n rfl rfl rfl (rfl) ?_
    refine sl_guard_n rfl rfl rfl (rfl) ?_
    refine sl_guard_n rfl rfl rfl (rfl) ?_
    refine sl_guard_n rfl rfl rfl (rfl) ?_
    refine sl_guard_n rfl rfl rfl (rfl) ?_
    refine sl_guard_n rfl rfl rfl (rfl) ?_
    refine sl_guard_n rfl rfl rfl (rfl) ?_
    refine sl_pk_t rfl rfl rfl (rfl) rfl ?_
    refine sl_nil ?_
    refine sw_true rfl (rfl) ?_
    refine sw_seq ?_
    refine sl_region ?_
    refine sl_as rfl rfl rfl ?_
    refine sl_nil ?_
    refine sw_ret ⟨rfl, _, _, res_one rfl rfl, ?_, ⟨dec_ff (fun e => by subst e; simp at h2), rfl⟩⟩
    repeat constructor
  refine sl_guard_y rfl rfl rfl h2 ?_
  first
    | refine sl_fieldAddr_ptr rfl rfl rfl fo_72_0 ?_
    | refine sl_fieldAddr_rp rfl rfl rfl fo_72_0 ?_
    | refine sl_fieldAddr_ref rfl rfl rfl fo_72_0 ?_
  refine sl_guard_y rfl rfl rfl h2 ?_
  first
    | refine sl_load_rp1 rfl rfl rfl ag_67 rfl ?_
    | refine sl_load_blk1 rfl rfl rfl ag_67 (by repeat constructor) rfl ?_
  refine sl_guard_y rfl rfl rfl h2 ?_
  first
    | refine sl_fieldAddr_ptr rfl rfl rfl fo_72_0 ?_
    | refine sl_fieldAddr_rp rfl rfl rfl fo_72_0 ?_
    | refine sl_fieldAddr_ref rfl rfl rfl fo_72_0 ?_
  refine sl_guard_y rfl rfl rfl h2 ?_
  first
    | refine sl_load_rp1 rfl rfl rfl ag_67 rfl ?_
    | refine sl_load_blk1 rfl rfl rfl ag_67 (by repeat constructor) rfl ?_
  refine sl_guard_y rfl rfl rfl h2 ?_
  refine sl_callf rfl rfl cal_83 (halarms_ok a.alarms b.alarms σ hsm.1) ?_ ?_ ?_ (fun _ _ h => h.elim)
  · repeat constructor
  · repeat constructor
  rintro _ _ ⟨rfl, hσ⟩
  have hσ2 := hσ.symm
  subst hσ2
  refine sl_guard_y rfl rfl rfl h2 ?_
  refine sl_not rfl rfl rfl ?_
  refine sl_pk_f rfl rfl rfl h2 rfl ?_
  refine sl_mv rfl rfl rfl ?_
  refine sl_case_at 26 rfl (fun h3 => ?_) (fun h3 => ?_)
  · refine sl_guard_n rfl rfl rfl h3 ?_
    refine sl_guard_n rfl rfl rfl h3 ?_
    refine sl_guard_n rfl rfl rfl h3 ?_
    refine sl_guard_n rfl rfl rfl h3 ?_
    refine sl_guard_n rfl rfl rfl h3 ?_
    refine sl_guard_n rfl rfl rfl h3 ?_
    refine sl_guard_n rfl rfl rfl h3 ?_
    refine sl_pk_t rfl rfl rfl h3 rfl ?_
    refine sl_nil ?_
    refine sw_true rfl (rfl) ?_
    refine sw_seq ?_
    refine sl_region ?_
    refine sl_as rfl rfl rfl ?_
    refine sl_nil ?_
    refine sw_ret ⟨rfl, _, _, res_one rfl rfl, ?_, ⟨dec_ff (fun e => by subst e; simp at h3), rfl⟩⟩
    repeat constructor
  refine sl_guard_y rfl rfl rfl h3 ?_
  first
    | refine sl_fieldAddr_ptr rfl rfl rfl fo_72_3 ?_
    | refine sl_fieldAddr_rp rfl rfl rfl fo_72_3 ?_
    | refine sl_fieldAddr_ref rfl rfl rfl fo_72_3 ?_
  refine sl_guard_y rfl rfl rfl h3 ?_
  first
    | refine sl_load_rp1 rfl rfl rfl ag_70 rfl ?_
    | refine sl_load_blk1 rfl rfl rfl ag_70 (by repeat constructor) rfl ?_
  refine sl_guard_y rfl rfl rfl h3 ?_
  first
    | refine sl_len rfl rfl rfl ⟨_, u_70⟩ ?_
    | refine sl_len_sl rfl rfl rfl ⟨_, u_70⟩ ?_
    | refine sl_len_w _ rfl rfl rfl ⟨_, u_70⟩ ?_
  refine sl_guard_y rfl rfl rfl h3 ?_
  first
    | refine sl_fieldAddr_ptr rfl rfl rfl fo_72_3 ?_
    | refine sl_fieldAddr_rp rfl rfl rfl fo_72_3 ?_
    | refine sl_fieldAddr_ref rfl rfl rfl fo_72_3 ?_
  refine sl_guard_y rfl rfl rfl h3 ?_
  first
    | refine sl_load_rp1 rfl rfl rfl ag_70 rfl ?_
    | refine sl_load_blk1 rfl rfl rfl ag_70 (by repeat constructor) rfl ?_
  refine sl_guard_y rfl rfl rfl h3 ?_
  first
    | refine sl_len rfl rfl rfl ⟨_, u_70⟩ ?_
    | refine sl_len_sl rfl rfl rfl ⟨_, u_70⟩ ?_
    | refine sl_len_w _ rfl rfl rfl ⟨_, u_70⟩ ?_
  refine sl_guard_y rfl rfl rfl h3 ?_
  refine sl_bin rfl rfl rfl rfl rfl ?_
  refine sl_pk_f rfl rfl rfl h3 rfl ?_
  refine sl_nil ?_
  refine sw_cond rfl (fun hl => ?_) (fun hl => ?_)
  · have hl1 : a.mod.length ≠ b.mod.length := len_ne hl
    refine sw_seq ?_
    refine sl_region ?_
    refine sl_as rfl rfl rfl ?_
    refine sl_nil ?_
    refine sw_ret ⟨rfl, _, _, res_one rfl rfl, ?_, ⟨dec_ff (fun e => hl1 (by rw [e])), rfl⟩⟩
    repeat constructor
  have hl1 : a.mod.length = b.mod.length := len_nn hl
  refine sw_skip ?_
  refine sw_seq ?_
  refine sw_seq ?_
  refine sl_region ?_
  refine sl_as rfl rfl rfl ?_
  refine sl_nil ?_
  refine sw_block ?_
  refine sw_loopw (fun nX sX δX σX => ∃ (i : Nat), (a.mod.length - i) = nX ∧ sX = ⟨53, (.cons 2 (.rp ((smyCells a))) (.cons 3 (.rp ((smyCells b))) (.cons 5 (.val (.int .i64 (i : Int))) .nil)))⟩ ∧ δX = [] ∧ σX = σ ∧ (i ≤ a.mod.length) ∧ (∀ k (h1 : k < a.mod.length) (h2 : k < b.mod.length), k < i → a.mod[k] = b.mod[k])) ?_ ?_
  · refine ⟨_, _, _, ?_, ?_, 0, rfl, rfl, rfl, rfl, Nat.zero_le _, fun k h1 h2 h => absurd h (Nat.not_lt_zero k)⟩
    · exact ⟨rfl, by repeat constructor⟩
    · repeat constructor
  rintro nX sX δX σX ⟨i, rfl, rfl, rfl, rfl, hi, hall⟩
  refine sw_seq ?_
  refine sw_seq ?_
  refine sl_region ?_
  refine sl_mv rfl rfl rfl ?_
  first
    | refine sl_fieldAddr_ptr rfl rfl rfl fo_72_3 ?_
    | refine sl_fieldAddr_rp rfl rfl rfl fo_72_3 ?_
    | refine sl_fieldAddr_ref rfl rfl rfl fo_72_3 ?_
  first
    | refine sl_load_rp1 rfl rfl rfl ag_70 rfl ?_
    | refine sl_load_blk1 rfl rfl rfl ag_70 (by repeat constructor) rfl ?_
  first
    | refine sl_len rfl rfl rfl ⟨_, u_70⟩ ?_
    | refine sl_len_sl rfl rfl rfl ⟨_, u_70⟩ ?_
    | refine sl_len_w _ rfl rfl rfl ⟨_, u_70⟩ ?_
  refine sl_bin rfl rfl rfl rfl rfl ?_
  refine sl_nil ?_
  refine sw_cond rfl (fun hj => ?_) (fun hj => ?_)
  · have hj1 : i < a.mod.length := by have := of_decide_eq_true hj; rw [List.length_map] at this; omega
    have hj2 : i < b.mod.length := by omega
    refine sw_skip ?_
    refine sw_seq ?_
    refine sw_block ?_
    refine sw_seq ?_
    refine sa_start [] mixed ?_
    first
      | refine sa_take 0 rfl rfl (by kernel_rfl) .nil (pu_fieldAddr_ptr rfl rfl fo_72_3) ?_
      | refine sa_take 0 rfl rfl (by kernel_rfl) .nil (pu_fieldAddr_rp rfl rfl fo_72_3) ?_
      | refine sa_take 0 rfl rfl (by kernel_rfl) .nil (pu_fieldAddr_ref rfl rfl fo_72_3) ?_
    refine sa_take 1 rfl rfl (by kernel_rfl) .nil (pu_load_rp1 rfl rfl ag_70 rfl) ?_
    refine sa_take 2 rfl rfl (by kernel_rfl) .nil (pu_mv rfl rfl) ?_
    refine sa_take 3 rfl rfl (by kernel_rfl) .nil (pu_indexAddr rfl rfl rfl u_70 sz_127 (by omega) (idx_map hj1) rfl) ?_
    refine sa_take 4 rfl rfl (by kernel_rfl) .nil (pu_load_rpn rfl rfl ag_127 sz_127 (Nat.le_of_ble_eq_true rfl)) ?_
    first
      | refine sa_take 5 rfl rfl (by kernel_rfl) .nil (pu_fieldAddr_ptr rfl rfl fo_72_3) ?_
      | refine sa_take 5 rfl rfl (by kernel_rfl) .nil (pu_fieldAddr_rp rfl rfl fo_72_3) ?_
      | refine sa_take 5 rfl rfl (by kernel_rfl) .nil (pu_fieldAddr_ref rfl rfl fo_72_3) ?_
    refine sa_take 6 rfl rfl (by kernel_rfl) .nil (pu_load_rp1 rfl rfl ag_70 rfl) ?_
    refine sa_take 7 rfl rfl (by kernel_rfl) .nil (pu_mv rfl rfl) ?_
    refine sa_take 8 rfl rfl (by kernel_rfl) .nil (pu_indexAddr rfl rfl rfl u_70 sz_127 (by omega) (idx_map hj2) rfl) ?_
    refine sa_take 9 rfl rfl (by kernel_rfl) .nil (pu_load_rpn rfl rfl ag_127 sz_127 (Nat.le_of_ble_eq_true rfl)) ?_
    refine sa_take 10 rfl rfl (by kernel_rfl) .nil (pu_struct_ne rfl rfl rfl ag_127 eg_127 ek_127 rfl) ?_
    refine sa_done (by kernel_rfl) ?_
    refine sw_cond rfl (fun he => ?_) (fun he => ?_)
    · refine sw_seq ?_
      refine sl_region ?_
      refine sl_as rfl rfl rfl ?_
      refine sl_nil ?_
      refine sw_ret ⟨rfl, _, _, res_one rfl rfl, ?_, ⟨dec_ff (fun e => by rw [nmd_cmp] at he; subst e; simp at he), rfl⟩⟩
      repeat constructor
    refine sw_skip ?_
    refine sl_region ?_
    refine sl_mv rfl rfl rfl ?_
    first
      | refine sl_inc rfl rfl rfl rfl (by omega) ?_
      | refine sl_add rfl rfl rfl rfl (by constructor <;> omega) ?_
      | refine sl_bin rfl rfl rfl rfl rfl ?_
    refine sl_as rfl rfl rfl ?_
    refine sl_nil ?_
    refine ⟨_, by omega, _, _, ?_, ?_, i + 1, rfl, rfl, rfl, rfl, by omega, all_two hall hj1 hj2 (by rw [nmd_cmp] at he; simpa using he)⟩
    · exact ⟨rfl, by repeat constructor⟩
    · repeat constructor
  have hj1 : i = a.mod.length := by have := of_decide_eq_false hj; rw [List.length_map] at this; omega
  refine sw_exit ?_
  refine sw_seq ?_
  refine sl_region ?_
  refine sl_as rfl rfl rfl ?_
  refine sl_nil ?_
  refine sw_ret ⟨rfl, _, _, res_one rfl rfl, ?_, ⟨dec_tt (smy_eq (by simpa using h1) (by rw [ivl_cmp] at h2; simpa using h2) (by simpa using h3) (list_eq_all hl1 fun k h1 h2 => hall k h1 h2 (by omega))), rfl⟩⟩
  repeat constructor

end Go.Proofs.Ytioechdfghglhaa

/- Walks: printed by a program of this session out of its script CodeT. -/
namespace Go.Proofs.Ytioechdfghglhaa
set_option linter.unusedVariables false
set_option linter.unusedSimpArgs false
set_option maxRecDepth 4000
set_option maxHeartbeats 4000000
open Go Go.RowKit SL


/-- CodeReads. -/
theorem codeReads_ok (b : List UInt8) (ps : List Prt) (how : List UInt8) (hok : ∀ p ∈ ps, PrtOk p) :
    FSpec Try.prog 9 [.val (.list (b.map byteV)), .val (.list (ps.map prtV)), .val (.list (how.map byteV))] [] (fun d σ' => d = .val (.bool true) ∧ σ' = []) := by
  refine spec_of_sw Try.func9 rfl ?_
  refine sw_seq ?_
  refine sl_region ?_
  refine sl_as rfl rfl rfl ?_
  refine sl_nil ?_
  refine sw_seq ?_
  refine sw_seq ?_
  refine sl_region ?_
  refine sl_callf rfl rfl cal_15 (known2_ok []) ?_ ?_ ?_ (fun _ _ h => h.elim)
  · repeat constructor
  · repeat constructor
  rintro _ _ ⟨rfl, rfl⟩
  refine sl_not rfl rfl rfl ?_
  refine sl_nil ?_
  refine sw_false rfl (rfl) ?_
  refine sw_skip ?_
  refine sw_seq ?_
  refine sw_seq ?_
  refine sl_region ?_
  refine sl_mv rfl rfl rfl ?_
  first
    | refine sl_len rfl rfl rfl ⟨_, u_26⟩ ?_
    | refine sl_len_sl rfl rfl rfl ⟨_, u_26⟩ ?_
    | refine sl_len_w _ rfl rfl rfl ⟨_, u_26⟩ ?_
  refine sl_bin rfl rfl rfl rfl rfl ?_
  refine sl_mv rfl rfl rfl ?_
  refine sl_case_at 17 rfl (fun g1 => ?_) (fun g1 => ?_)
  · refine sl_guard_n rfl rfl rfl g1 ?_
    refine sl_guard_n rfl rfl rfl g1 ?_
    refine sl_guard_n rfl rfl rfl g1 ?_
    refine sl_pk_t rfl rfl rfl g1 rfl ?_
    refine sl_mv rfl rfl rfl ?_
    refine sl_guard_n rfl rfl rfl (rfl) ?_
    refine sl_guard_n rfl rfl rfl (rfl) ?_
    refine sl_guard_n rfl rfl rfl (rfl) ?_
    refine sl_pk_t rfl rfl rfl (rfl) rfl ?_
    refine sl_nil ?_
    refine sw_true rfl (rfl) ?_
    refine sw_seq ?_
    refine sl_region ?_
    refine sl_as rfl rfl rfl ?_
    refine sl_nil ?_
    refine sw_ret ⟨rfl, _, _, res_one rfl rfl, ?_, ⟨rfl, rfl⟩⟩
    repeat constructor
  refine sl_guard_y rfl rfl rfl g1 ?_
  refine sl_mv rfl rfl rfl ?_
  refine sl_guard_y rfl rfl rfl g1 ?_
  first
    | refine sl_len rfl rfl rfl ⟨_, u_26⟩ ?_
    | refine sl_len_sl rfl rfl rfl ⟨_, u_26⟩ ?_
    | refine sl_len_w _ rfl rfl rfl ⟨_, u_26⟩ ?_
  refine sl_guard_y rfl rfl rfl g1 ?_
  refine sl_bin rfl rfl rfl rfl rfl ?_
  refine sl_pk_f rfl rfl rfl g1 rfl ?_
  refine sl_mv rfl rfl rfl ?_
  refine sl_case_at 22 rfl (fun g2 => ?_) (fun g2 => ?_)
  · refine sl_guard_n rfl rfl rfl g2 ?_
    refine sl_guard_n rfl rfl rfl g2 ?_
    refine sl_guard_n rfl rfl rfl g2 ?_
    refine sl_pk_t rfl rfl rfl g2 rfl ?_
    refine sl_nil ?_
    refine sw_true rfl (rfl) ?_
    refine sw_seq ?_
    refine sl_region ?_
    refine sl_as rfl rfl rfl ?_
    refine sl_nil ?_
    refine sw_ret ⟨rfl, _, _, res_one rfl rfl, ?_, ⟨rfl, rfl⟩⟩
    repeat constructor
  refine sl_guard_y rfl rfl rfl g2 ?_
  refine sl_mv rfl rfl rfl ?_
  refine sl_guard_y rfl rfl rfl g2 ?_
  refine sl_callf rfl rfl cal_35 (light_ok ps []) ?_ ?_ ?_ (fun _ _ h => h.elim)
  · repeat constructor
  · repeat constructor
  rintro _ _ ⟨bb, rfl, hb, rfl⟩
  refine sl_guard_y rfl rfl rfl g2 ?_
  refine sl_not rfl rfl rfl ?_
  refine sl_pk_f rfl rfl rfl g2 rfl ?_
  refine sl_nil ?_
  refine sw_cond rfl (fun hnl => ?_) (fun hnl => ?_)
  · refine sw_seq ?_
    refine sl_region ?_
    refine sl_as rfl rfl rfl ?_
    refine sl_nil ?_
    refine sw_ret ⟨rfl, _, _, res_one rfl rfl, ?_, ⟨rfl, rfl⟩⟩
    repeat constructor
  obtain ⟨hn, hlt⟩ := hb (by simpa using hnl)
  have hb5 : b.length ≤ 500 := by have := of_decide_eq_false g1; rw [List.length_map] at this; omega
  have hh : how.length ≤ 30 := by have := of_decide_eq_false g2; rw [List.length_map] at this; omega
  refine sw_skip ?_
  refine sw_seq ?_
  refine sw_seq ?_
  refine sl_region ?_
  refine sl_as rfl rfl rfl ?_
  refine sl_nil ?_
  refine sw_block ?_
  refine sw_loopw (fun nX sX δX σX => ∃ (k : Nat) (m : List UInt8), (ps.length - k) = nX ∧ sX = ⟨112, (.cons 0 (.val (.list (m.map byteV))) (.cons 1 (.val (.list (ps.map prtV))) (.cons 2 (.val (.list (how.map byteV))) (.cons 7 (.val (.int .i64 (k : Int))) .nil))))⟩ ∧ δX = [] ∧ σX = [] ∧ (k ≤ ps.length) ∧ (m = b ++ (ps.take k).flatMap encPart)) ?_ ?_
  · refine ⟨_, _, _, ?_, ?_, 0, b, rfl, rfl, rfl, rfl, Nat.zero_le _, by simp⟩
    · exact ⟨rfl, by repeat constructor⟩
    · repeat constructor
  rintro nX sX δX σX ⟨k, m, rfl, rfl, rfl, rfl, hk0, hm0⟩
  refine sw_seq ?_
  refine sw_seq ?_
  refine sl_region ?_
  refine sl_mv rfl rfl rfl ?_
  refine sl_mv rfl rfl rfl ?_
  first
    | refine sl_len rfl rfl rfl ⟨_, u_64⟩ ?_
    | refine sl_len_sl rfl rfl rfl ⟨_, u_64⟩ ?_
    | refine sl_len_w _ rfl rfl rfl ⟨_, u_64⟩ ?_
  refine sl_bin rfl rfl rfl rfl rfl ?_
  refine sl_nil ?_
  refine sw_cond rfl (fun hk => ?_) (fun hk => ?_)
  · have hk : k < ps.length := by simpa using hk
    have hok1 := hok ps[k] (List.getElem_mem hk)
    have hlt1 := hlt ps[k] (List.getElem_mem hk)
    have hml : m.length ≤ 20000 := by
      have := flat_len (f := encPart) (c := 1100) (ns := ps) (fun p hp => encPart_len (hok p hp) (hlt p hp)) k
      rw [hm0]; simp only [List.length_append]; omega
    have e8 : m ++ encPart ps[k] = b ++ (ps.take (k + 1)).flatMap encPart := by rw [flat_snoc hk, hm0]
    refine sw_skip ?_
    refine sw_seq ?_
    refine sw_block ?_
    refine sa_start [] mixed ?_
    refine sa_take 0 rfl rfl (by kernel_rfl) .nil (pu_mv rfl rfl) ?_
    refine sa_take 1 rfl rfl (by kernel_rfl) .nil (pu_mv rfl rfl) ?_
    first
      | refine sa_take 2 rfl rfl (by kernel_rfl) .nil (pu_len rfl rfl ⟨_, u_26⟩) ?_
      | refine sa_take 2 rfl rfl (by kernel_rfl) .nil (pu_len_sl rfl rfl ⟨_, u_26⟩) ?_
      | refine sa_take 2 rfl rfl (by kernel_rfl) .nil (pu_len_w _ rfl rfl ⟨_, u_26⟩) ?_
    refine sa_take 3 rfl rfl (by kernel_rfl) .nil (pu_mv rfl rfl) ?_
    first
      | refine sa_take 4 rfl rfl (by kernel_rfl) .nil (pu_len rfl rfl ⟨_, u_26⟩) ?_
      | refine sa_take 4 rfl rfl (by kernel_rfl) .nil (pu_len_sl rfl rfl ⟨_, u_26⟩) ?_
      | refine sa_take 4 rfl rfl (by kernel_rfl) .nil (pu_len_w _ rfl rfl ⟨_, u_26⟩) ?_
    refine sa_take 6 rfl rfl (by kernel_rfl) .nil (pu_mv rfl rfl) ?_
    refine sa_take 7 rfl rfl (by kernel_rfl) .nil (pu_mv rfl rfl) ?_
    refine sa_take 8 rfl rfl (by kernel_rfl) .nil (pu_indexAddr rfl rfl rfl u_64 sz_74 (by omega) (idx_map hk) rfl) ?_
    refine sa_take 9 rfl rfl (by kernel_rfl) .nil (pu_load_rpn rfl rfl ag_74 sz_74 (Nat.le_of_ble_eq_true rfl)) ?_
    refine sa_one 5 (by kernel_rfl) rfl ?_
    refine sl_slice_full (m.map byteV).length rfl rfl rfl u_26 sz_5 (fun x hx => (SzI.get (by repeat constructor) x hx).1) rfl rfl (Nat.le_refl _) ?_
    refine sl_nil ⟨.nil, ?_⟩
    refine sa_own (t := 38) (sz := 1) rfl (fun w0 => ?_)
    refine sa_set 38 (.own w0 (m.map byteV)) (congrArg (D.own w0) (List.take_length ..)) ?_
    refine sa_one 10 (by kernel_rfl) rfl ?_
    refine sl_callf rfl rfl cal_36 (put_ok w0 m ps[k] [] hok1 hlt1 (by omega)) ?_ ?_ ?_ (fun _ _ h => h.elim)
    · repeat constructor
    · repeat constructor
    rintro _ _ ⟨u2, rfl, rfl⟩
    refine sl_nil ⟨.nil, ?_⟩
    refine sa_one 11 (by kernel_rfl) rfl ?_
    refine sl_as rfl rfl rfl ?_
    refine sl_nil ⟨.nil, ?_⟩
    refine sa_done (by kernel_rfl) ?_
    refine sl_region ?_
    refine sl_mv rfl rfl rfl ?_
    first
      | refine sl_inc rfl rfl rfl rfl (by omega) ?_
      | refine sl_add rfl rfl rfl rfl (by constructor <;> omega) ?_
      | refine sl_bin rfl rfl rfl rfl rfl ?_
    refine sl_as rfl rfl rfl ?_
    refine sl_nil ?_
    refine ⟨_, by omega, _, _, ?_, ?_, k + 1, _, rfl, rfl, rfl, rfl, by omega, e8⟩
    · exact ⟨rfl, by repeat constructor⟩
    · repeat constructor
  have hk : k = ps.length := by have h9 : ¬ k < ps.length := (by simpa using hk); omega
  subst hk
  rw [List.take_length] at hm0
  have hml : m.length ≤ 20000 := by
    have := flat_allc (f := encPart) (c := 1100) (ns := ps) (fun p hp => encPart_len (hok p hp) (hlt p hp))
    rw [hm0]; simp only [List.length_append]; omega
  refine sw_exit ?_
  refine sw_seq ?_
  refine sl_region ?_
  refine sl_mv rfl rfl rfl ?_
  refine sl_callf rfl rfl cal_18 (newReader_ok m [] (by omega)) ?_ ?_ ?_ (fun _ _ h => h.elim)
  · repeat constructor
  · repeat constructor
  rintro _ _ ⟨q, rfl, rfl⟩
  refine sl_mv rfl rfl rfl ?_
  refine sl_bd rfl rfl (.cons rfl .nil) bi_80 zd_80 rfl ?_
  refine sl_bx rfl rfl rfl rfl (fun b48 => ?_)
  refine sl_as rfl rfl rfl ?_
  refine sl_as rfl rfl rfl ?_
  refine sl_nil ?_
  refine sw_seq ?_
  refine sw_seq ?_
  refine sl_region ?_
  refine sl_as rfl rfl rfl ?_
  refine sl_nil ?_
  refine sw_block ?_
  refine sw_loopw (fun nX sX δX σX => ∃ (i : Nat) (st : Option (List UInt8)) (c c2 : Chunk), (how.length - i) = nX ∧ sX = ⟨112, (.cons 2 (.val (.list (how.map byteV))) (.cons 8 (.ptr q 0) (.cons 9 (.ptr b48 0) (.cons 10 (.val (.int .i64 (i : Int))) .nil))))⟩ ∧ δX = [] ∧ σX = c :: c2 :: [] ∧ (i ≤ how.length) ∧ (Rdr q st c) ∧ (Rdr b48 st c2)) ?_ ?_
  · refine ⟨_, _, _, ?_, ?_, 0, some m, _, _, rfl, rfl, rfl, rfl, Nat.zero_le _, ⟨rfl, by omega⟩, ⟨rfl, by omega⟩⟩
    · exact ⟨rfl, by repeat constructor⟩
    · repeat constructor
  rintro nX sX δX σX ⟨i, st, c, c2, rfl, rfl, rfl, rfl, hi, h1, h2⟩
  refine sw_seq ?_
  refine sw_seq ?_
  refine sl_region ?_
  refine sl_mv rfl rfl rfl ?_
  refine sl_mv rfl rfl rfl ?_
  first
    | refine sl_len rfl rfl rfl ⟨_, u_26⟩ ?_
    | refine sl_len_sl rfl rfl rfl ⟨_, u_26⟩ ?_
    | refine sl_len_w _ rfl rfl rfl ⟨_, u_26⟩ ?_
  refine sl_bin rfl rfl rfl rfl rfl ?_
  refine sl_nil ?_
  refine sw_cond rfl (fun hj => ?_) (fun hj => ?_)
  · have hj1 : i < how.length := by simpa using hj
    refine sw_skip ?_
    refine sw_seq ?_
    refine sw_block ?_
    refine sw_seq ?_
    refine sl_region ?_
    refine sl_as rfl rfl rfl ?_
    refine sl_nil ?_
    refine sw_seq ?_
    refine sw_seq ?_
    refine sl_region ?_
    refine sl_mv rfl rfl rfl ?_
    refine sl_mv rfl rfl rfl ?_
    refine sl_indexAddr' rfl rfl rfl rfl u_26 sz_5 (by omega) (idx_map hj1) rfl ?_
    first
      | refine sl_load_rp1 rfl rfl rfl ag_5 rfl ?_
      | refine sl_load_blk1 rfl rfl rfl ag_5 (by repeat constructor) rfl ?_
    refine sl_rem rfl rfl rfl rfl (by decide) ?_
    refine sl_set 59 (.val (.int .u8 ((how[i].toNat % 5 : Nat) : Int))) (rem5 how[i]) ?_
    refine sl_nil ?_
    refine sw_block ?_
    refine sw_seq ?_
    refine sl_region ?_
    refine sl_bin rfl rfl rfl rfl rfl ?_
    refine sl_as rfl rfl rfl ?_
    refine sl_nil ?_
    refine sw_cond rfl (fun h0 => ?_) (fun h0 => ?_)
    · refine sl_region ?_
      refine sl_mv rfl rfl rfl ?_
      refine sl_callf rfl rfl cal_33 (pNum_ok q st c (c2 :: []) h1) ?_ ?_ ?_ (fun _ _ h => h.elim)
      · repeat constructor
      · repeat constructor
      rintro _ _ ⟨rfl, c3, h3, rfl⟩
      refine sl_mv rfl rfl rfl ?_
      refine sl_callf rfl rfl cal_40 (ynum_ok b48 st c2 (c3 :: []) h2) ?_ ?_ ?_ (fun _ _ h => h.elim)
      · repeat constructor
      · repeat constructor
      rintro _ _ ⟨rfl, c4, h4, rfl⟩
      refine sl_bin rfl rfl rfl rfl rfl ?_
      refine sl_set 71 (.val (.bool true)) (self_u64 _) ?_
      refine sl_as rfl rfl rfl ?_
      refine sl_nil ?_
      refine sw_seq ?_
      refine sl_region ?_
      refine sl_mv rfl rfl rfl ?_
      refine sl_not rfl rfl rfl ?_
      refine sl_nil ?_
      refine sw_false rfl (rfl) ?_
      refine sw_skip ?_
      refine sl_region ?_
      refine sl_mv rfl rfl rfl ?_
      first
        | refine sl_inc rfl rfl rfl rfl (by omega) ?_
        | refine sl_add rfl rfl rfl rfl (by constructor <;> omega) ?_
        | refine sl_bin rfl rfl rfl rfl rfl ?_
      refine sl_as rfl rfl rfl ?_
      refine sl_nil ?_
      refine ⟨_, by omega, _, _, ?_, ?_, i + 1, _, c3, c4, rfl, rfl, rfl, rfl, by omega, h3, h4⟩
      · exact ⟨rfl, by repeat constructor⟩
      · repeat constructor
    refine sw_seq ?_
    refine sl_region ?_
    refine sl_bin rfl rfl rfl rfl rfl ?_
    refine sl_as rfl rfl rfl ?_
    refine sl_nil ?_
    refine sw_cond rfl (fun h0b => ?_) (fun h0b => ?_)
    · refine sl_region ?_
      refine sl_mv rfl rfl rfl ?_
      refine sl_callf rfl rfl cal_20 (pInt_ok q st c (c2 :: []) h1) ?_ ?_ ?_ (fun _ _ h => h.elim)
      · repeat constructor
      · repeat constructor
      rintro _ _ ⟨rfl, c3, h3, rfl⟩
      refine sl_mv rfl rfl rfl ?_
      refine sl_callf rfl rfl cal_41 (whole_ok b48 st c2 (c3 :: []) h2) ?_ ?_ ?_ (fun _ _ h => h.elim)
      · repeat constructor
      · repeat constructor
      rintro _ _ ⟨rfl, c4, h4, rfl⟩
      refine sl_bin rfl rfl rfl rfl rfl ?_
      refine sl_set 78 (.val (.bool true)) (self_i64 _) ?_
      refine sl_as rfl rfl rfl ?_
      refine sl_nil ?_
      refine sw_seq ?_
      refine sl_region ?_
      refine sl_mv rfl rfl rfl ?_
      refine sl_not rfl rfl rfl ?_
      refine sl_nil ?_
      refine sw_false rfl (rfl) ?_
      refine sw_skip ?_
      refine sl_region ?_
      refine sl_mv rfl rfl rfl ?_
      first
        | refine sl_inc rfl rfl rfl rfl (by omega) ?_
        | refine sl_add rfl rfl rfl rfl (by constructor <;> omega) ?_
        | refine sl_bin rfl rfl rfl rfl rfl ?_
      refine sl_as rfl rfl rfl ?_
      refine sl_nil ?_
      refine ⟨_, by omega, _, _, ?_, ?_, i + 1, _, c3, c4, rfl, rfl, rfl, rfl, by omega, h3, h4⟩
      · exact ⟨rfl, by repeat constructor⟩
      · repeat constructor
    refine sw_seq ?_
    refine sl_region ?_
    refine sl_bin rfl rfl rfl rfl rfl ?_
    refine sl_as rfl rfl rfl ?_
    refine sl_nil ?_
    refine sw_cond rfl (fun h0c => ?_) (fun h0c => ?_)
    · refine sl_region ?_
      refine sl_mv rfl rfl rfl ?_
      refine sl_callf rfl rfl cal_32 (pText_ok q st c (c2 :: []) h1) ?_ ?_ ?_ (fun _ _ h => h.elim)
      · repeat constructor
      · repeat constructor
      rintro _ _ ⟨rfl, c3, h3, rfl⟩
      refine sl_mv rfl rfl rfl ?_
      refine sl_callf rfl rfl cal_42 (ytext_ok b48 st c2 (c3 :: []) h2) ?_ ?_ ?_ (fun _ _ h => h.elim)
      · repeat constructor
      · repeat constructor
      rintro _ _ ⟨rfl, c4, h4, rfl⟩
      refine sl_str rfl rfl rfl rfl rfl ?_
      refine sl_set 85 (.val (.bool true)) (self_str _) ?_
      refine sl_as rfl rfl rfl ?_
      refine sl_nil ?_
      refine sw_seq ?_
      refine sl_region ?_
      refine sl_mv rfl rfl rfl ?_
      refine sl_not rfl rfl rfl ?_
      refine sl_nil ?_
      refine sw_false rfl (rfl) ?_
      refine sw_skip ?_
      refine sl_region ?_
      refine sl_mv rfl rfl rfl ?_
      first
        | refine sl_inc rfl rfl rfl rfl (by omega) ?_
        | refine sl_add rfl rfl rfl rfl (by constructor <;> omega) ?_
        | refine sl_bin rfl rfl rfl rfl rfl ?_
      refine sl_as rfl rfl rfl ?_
      refine sl_nil ?_
      refine ⟨_, by omega, _, _, ?_, ?_, i + 1, _, c3, c4, rfl, rfl, rfl, rfl, by omega, h3, h4⟩
      · exact ⟨rfl, by repeat constructor⟩
      · repeat constructor
    refine sw_seq ?_
    refine sl_region ?_
    refine sl_bin rfl rfl rfl rfl rfl ?_
    refine sl_as rfl rfl rfl ?_
    refine sl_nil ?_
    refine sw_cond rfl (fun h0d => ?_) (fun h0d => ?_)
    · refine sl_region ?_
      refine sl_mv rfl rfl rfl ?_
      refine sl_callf rfl rfl cal_34 (pBool_ok q st c (c2 :: []) h1) ?_ ?_ ?_ (fun _ _ h => h.elim)
      · repeat constructor
      · repeat constructor
      rintro _ _ ⟨rfl, c3, h3, rfl⟩
      refine sl_mv rfl rfl rfl ?_
      refine sl_callf rfl rfl cal_43 (ybool_ok b48 st c2 (c3 :: []) h2) ?_ ?_ ?_ (fun _ _ h => h.elim)
      · repeat constructor
      · repeat constructor
      rintro _ _ ⟨rfl, c4, h4, rfl⟩
      refine sl_bool_eq rfl rfl rfl rfl u_4 ?_
      refine sl_set 92 (.val (.bool true)) (self_bool _) ?_
      refine sl_as rfl rfl rfl ?_
      refine sl_nil ?_
      refine sw_seq ?_
      refine sl_region ?_
      refine sl_mv rfl rfl rfl ?_
      refine sl_not rfl rfl rfl ?_
      refine sl_nil ?_
      refine sw_false rfl (rfl) ?_
      refine sw_skip ?_
      refine sl_region ?_
      refine sl_mv rfl rfl rfl ?_
      first
        | refine sl_inc rfl rfl rfl rfl (by omega) ?_
        | refine sl_add rfl rfl rfl rfl (by constructor <;> omega) ?_
        | refine sl_bin rfl rfl rfl rfl rfl ?_
      refine sl_as rfl rfl rfl ?_
      refine sl_nil ?_
      refine ⟨_, by omega, _, _, ?_, ?_, i + 1, _, c3, c4, rfl, rfl, rfl, rfl, by omega, h3, h4⟩
      · exact ⟨rfl, by repeat constructor⟩
      · repeat constructor
    refine sl_region ?_
    refine sl_mv rfl rfl rfl ?_
    refine sl_callf rfl rfl cal_45 (pSumm_ok q st c (c2 :: []) h1) ?_ ?_ ?_ (fun _ _ h => h.elim)
    · repeat constructor
    · repeat constructor
    rintro _ _ ⟨rfl, c3, h3, rfl⟩
    refine sl_mv rfl rfl rfl ?_
    refine sl_callf rfl rfl cal_46 (ysumm_ok b48 st c2 (c3 :: []) h2) ?_ ?_ ?_ (fun _ _ h => h.elim)
    · repeat constructor
    · repeat constructor
    rintro _ _ ⟨s, st', c4, rfl, o4, hz, h4, rfl⟩
    have hs := Out.rdOf o4 hz
    have hsm := summ_small h1
    rw [hs.1] at hsm ⊢
    rw [hs.2] at h3
    refine sl_callf rfl rfl cal_44 (hsumm_ok s s (c3 :: c4 :: []) hsm) ?_ ?_ ?_ (fun _ _ h => h.elim)
    · repeat constructor
    · repeat constructor
    rintro _ _ ⟨rfl, rfl⟩
    refine sl_set 64 (.val (.bool true)) (congrArg (fun b => D.val (.bool b)) (decide_eq_true rfl)) ?_
    refine sl_as rfl rfl rfl ?_
    refine sl_nil ?_
    refine sw_seq ?_
    refine sl_region ?_
    refine sl_mv rfl rfl rfl ?_
    refine sl_not rfl rfl rfl ?_
    refine sl_nil ?_
    refine sw_false rfl (rfl) ?_
    refine sw_skip ?_
    refine sl_region ?_
    refine sl_mv rfl rfl rfl ?_
    first
      | refine sl_inc rfl rfl rfl rfl (by omega) ?_
      | refine sl_add rfl rfl rfl rfl (by constructor <;> omega) ?_
      | refine sl_bin rfl rfl rfl rfl rfl ?_
    refine sl_as rfl rfl rfl ?_
    refine sl_nil ?_
    refine ⟨_, by omega, _, _, ?_, ?_, i + 1, _, c3, c4, rfl, rfl, rfl, rfl, by omega, h3, h4⟩
    · exact ⟨rfl, by repeat constructor⟩
    · repeat constructor
  refine sw_exit ?_
  refine sw_seq ?_
  rcases st with _ | l
  · obtain ⟨r, rfl⟩ := h1
    obtain ⟨r2, rfl⟩ := h2
    refine sw_less (σ' := rd b48 r2 true :: rd q r true :: []) (by repeat constructor) ?_
    refine sw_freeze (t := 9) (b := b48) rfl rfl ?_
    refine sa_start [] mixed ?_
    refine sa_take 0 rfl rfl (by kernel_rfl) .nil (pu_mv rfl rfl) ?_
    refine sa_take 3 rfl rfl (by kernel_rfl) .nil (pu_mv rfl rfl) ?_
    refine sa_take 4 rfl rfl (by kernel_rfl) .nil (pu_nc rfl rfl rfl) ?_
    first
      | refine sa_take 5 rfl rfl (by kernel_rfl) .nil (pu_fieldAddr_ptr rfl rfl fo_80_1) ?_
      | refine sa_take 5 rfl rfl (by kernel_rfl) .nil (pu_fieldAddr_rp rfl rfl fo_80_1) ?_
      | refine sa_take 5 rfl rfl (by kernel_rfl) .nil (pu_fieldAddr_ref rfl rfl fo_80_1) ?_
    refine sa_take 6 rfl rfl (by kernel_rfl) .nil (pu_load_rp1 rfl rfl ag_4 rfl) ?_
    refine sa_take 7 rfl rfl (by kernel_rfl) .nil (pu_not rfl rfl) ?_
    refine sa_one 1 (by kernel_rfl) rfl ?_
    refine sl_callf rfl rfl cal_21 (done_ok q none (rd q r true) [] ⟨r, rfl⟩) ?_ ?_ ?_ (fun _ _ h => h.elim)
    · repeat constructor
    · repeat constructor
    rintro _ _ ⟨rfl, rfl⟩
    refine sl_nil ⟨.nil, ?_⟩
    refine sa_take 2 rfl rfl (by kernel_rfl) .nil (pu_bin rfl rfl rfl rfl) ?_
    refine sa_take 8 rfl rfl (by kernel_rfl) .nil (pu_mv rfl rfl) ?_
    refine sa_take_n 9 rfl rfl rfl rfl (rfl) (by kernel_rfl) .nil ?_
    refine sa_take_n 10 rfl rfl rfl rfl (rfl) (by kernel_rfl) .nil ?_
    refine sa_take_n 11 rfl rfl rfl rfl (rfl) (by kernel_rfl) .nil ?_
    refine sa_take_n 12 rfl rfl rfl rfl (rfl) (by kernel_rfl) .nil ?_
    refine sa_take_n 13 rfl rfl rfl rfl (rfl) (by kernel_rfl) .nil ?_
    refine sa_take_n 14 rfl rfl rfl rfl (rfl) (by kernel_rfl) .nil ?_
    refine sa_take 15 rfl rfl (by kernel_rfl) .nil (pu_pk_f rfl rfl (rfl) rfl) ?_
    refine sa_take 16 rfl rfl (by kernel_rfl) .nil (pu_bool_eq rfl rfl rfl u_4) ?_
    refine sa_one 17 (by kernel_rfl) rfl ?_
    refine sl_as rfl rfl rfl ?_
    refine sl_nil ⟨.nil, ?_⟩
    refine sa_done (by kernel_rfl) ?_
    refine sw_ret ⟨rfl, _, _, res_one rfl rfl, ?_, ⟨rfl, rfl⟩⟩
    repeat constructor
  obtain ⟨rfl, hl⟩ := h1
  obtain ⟨rfl, _⟩ := h2
  refine sw_less (σ' := rd b48 l false :: rd q l false :: []) (by repeat constructor) ?_
  refine sw_freeze (t := 9) (b := b48) rfl rfl ?_
  refine sa_start [] mixed ?_
  refine sa_take 0 rfl rfl (by kernel_rfl) .nil (pu_mv rfl rfl) ?_
  refine sa_take 3 rfl rfl (by kernel_rfl) .nil (pu_mv rfl rfl) ?_
  refine sa_take 4 rfl rfl (by kernel_rfl) .nil (pu_nc rfl rfl rfl) ?_
  first
    | refine sa_take 5 rfl rfl (by kernel_rfl) .nil (pu_fieldAddr_ptr rfl rfl fo_80_1) ?_
    | refine sa_take 5 rfl rfl (by kernel_rfl) .nil (pu_fieldAddr_rp rfl rfl fo_80_1) ?_
    | refine sa_take 5 rfl rfl (by kernel_rfl) .nil (pu_fieldAddr_ref rfl rfl fo_80_1) ?_
  refine sa_take 6 rfl rfl (by kernel_rfl) .nil (pu_load_rp1 rfl rfl ag_4 rfl) ?_
  refine sa_take 7 rfl rfl (by kernel_rfl) .nil (pu_not rfl rfl) ?_
  refine sa_one 1 (by kernel_rfl) rfl ?_
  refine sl_callf rfl rfl cal_21 (done_ok q (some l) (rd q l false) [] ⟨rfl, hl⟩) ?_ ?_ ?_ (fun _ _ h => h.elim)
  · repeat constructor
  · repeat constructor
  rintro _ _ ⟨rfl, rfl⟩
  refine sl_nil ⟨.nil, ?_⟩
  refine sa_take 2 rfl rfl (by kernel_rfl) .nil (pu_bin rfl rfl rfl rfl) ?_
  refine sa_take 8 rfl rfl (by kernel_rfl) .nil (pu_mv rfl rfl) ?_
  refine sa_take_y 9 rfl rfl rfl rfl (rfl) (by kernel_rfl) .nil (pu_mv rfl rfl) ?_
  refine sa_take_y 10 rfl rfl rfl rfl (rfl) (by kernel_rfl) .nil (pu_nc rfl rfl rfl) ?_
  first
    | refine sa_take_y 11 rfl rfl rfl rfl (rfl) (by kernel_rfl) .nil (pu_fieldAddr_ptr rfl rfl fo_80_0) ?_
    | refine sa_take_y 11 rfl rfl rfl rfl (rfl) (by kernel_rfl) .nil (pu_fieldAddr_rp rfl rfl fo_80_0) ?_
    | refine sa_take_y 11 rfl rfl rfl rfl (rfl) (by kernel_rfl) .nil (pu_fieldAddr_ref rfl rfl fo_80_0) ?_
  refine sa_take_y 12 rfl rfl rfl rfl (rfl) (by kernel_rfl) .nil (pu_load_rp1 rfl rfl ag_26 rfl) ?_
  first
    | refine sa_take_y 13 rfl rfl rfl rfl (rfl) (by kernel_rfl) .nil (pu_len rfl rfl ⟨_, u_26⟩) ?_
    | refine sa_take_y 13 rfl rfl rfl rfl (rfl) (by kernel_rfl) .nil (pu_len_sl rfl rfl ⟨_, u_26⟩) ?_
    | refine sa_take_y 13 rfl rfl rfl rfl (rfl) (by kernel_rfl) .nil (pu_len_w _ rfl rfl ⟨_, u_26⟩) ?_
  refine sa_take_y 14 rfl rfl rfl rfl (rfl) (by kernel_rfl) .nil (pu_bin rfl rfl rfl rfl) ?_
  refine sa_take 15 rfl rfl (by kernel_rfl) .nil (pu_pk_t rfl rfl (rfl) rfl) ?_
  refine sa_take 16 rfl rfl (by kernel_rfl) .nil (pu_bool_eq rfl rfl rfl u_4) ?_
  refine sa_set 111 (.val (.bool true)) (done_end l) ?_
  refine sa_one 17 (by kernel_rfl) rfl ?_
  refine sl_as rfl rfl rfl ?_
  refine sl_nil ⟨.nil, ?_⟩
  refine sa_done (by kernel_rfl) ?_
  refine sw_ret ⟨rfl, _, _, res_one rfl rfl, ?_, ⟨rfl, rfl⟩⟩
  repeat constructor

end Go.Proofs.Ytioechdfghglhaa

/- Walks: printed by a program of this session out of its script CodeU. -/
namespace Go.Proofs.Ytioechdfghglhaa
set_option linter.unusedVariables false
set_option linter.unusedSimpArgs false
set_option maxRecDepth 4000
set_option maxHeartbeats 4000000
open Go Go.RowKit SL


/-- plain: intervals that say nothing without bounds. -/
theorem plain_ok (s : Smy) (σ : List Chunk) (hn : s.mod.length ≤ 100000) :
    FSpec Try.prog 47 [.val (smyV s)] σ (fun d σ' => d = .val (smyV (normS s)) ∧ σ' = σ) := by
  obtain ⟨r, hr⟩ : ∃ r, r = normV s.ret := ⟨_, rfl⟩
  refine spec_of_sw Try.func47 rfl ?_
  refine sw_seq ?_
  refine sl_region ?_
  refine sl_bx rfl rfl rfl rfl (fun b1 => ?_)
  refine sl_alloc rfl rfl zd_72 (fun b2 => ?_)
  refine sl_nil ?_
  refine sw_seq ?_
  refine sw_seq ?_
  refine sl_region ?_
  first
    | refine sl_fieldAddr_ptr rfl rfl rfl fo_72_2 ?_
    | refine sl_fieldAddr_rp rfl rfl rfl fo_72_2 ?_
    | refine sl_fieldAddr_ref rfl rfl rfl fo_72_2 ?_
  first
    | refine sl_fieldAddr_ptr rfl rfl rfl fo_69_0 ?_
    | refine sl_fieldAddr_rp rfl rfl rfl fo_69_0 ?_
    | refine sl_fieldAddr_ref rfl rfl rfl fo_69_0 ?_
  first
    | refine sl_load_rp1 rfl rfl rfl ag_4 rfl ?_
    | refine sl_load_blk1 rfl rfl rfl ag_4 (by repeat constructor) rfl ?_
  refine sl_not rfl rfl rfl ?_
  refine sl_nil ?_
  refine sw_cutk ⟨36, (.cons 1 (.ptr b1 0) (.cons 2 (.ptr b2 0) .nil))⟩ (.blk b1 [.val (.list (s.alarms.map almV)), .val (.bool s.ends), .val (.bool r.some), .val (.int .i64 r.lo), .val (.int .i64 r.hi), .val (.list (s.mod.map nmdV))] :: .blk b2 zeroS :: σ) (True) ?_ ?_
  · refine sw_cond rfl (fun hs => ?_) (fun hs => ?_)
    · have hs : s.ret.some = false := by simpa using hs
      rw [normV_f hs] at hr
      subst hr
      refine sl_region ?_
      refine sl_bd rfl rfl .nil bi_69 zd_69 rfl ?_
      first
        | refine sl_fieldAddr_ptr rfl rfl rfl fo_72_2 ?_
        | refine sl_fieldAddr_rp rfl rfl rfl fo_72_2 ?_
        | refine sl_fieldAddr_ref rfl rfl rfl fo_72_2 ?_
      refine sl_stp rfl rfl rfl rfl sz_69 rfl rfl rfl (by repeat constructor) (Nat.le_of_ble_eq_true rfl) ?_
      refine sl_nil ?_
      refine ⟨?_, ?_, rfl, trivial⟩
      · exact ⟨rfl, by repeat constructor⟩
      · repeat constructor
    have hs : s.ret.some = true := by simpa using hs
    rw [normV_t hs] at hr
    subst hr
    refine sw_skip ?_
    refine ⟨?_, ?_, rfl, trivial⟩
    · exact ⟨rfl, by repeat constructor⟩
    · repeat constructor
  intro _
  refine sw_seq ?_
  refine sl_region ?_
  first
    | refine sl_fieldAddr_ptr rfl rfl rfl fo_72_3 ?_
    | refine sl_fieldAddr_rp rfl rfl rfl fo_72_3 ?_
    | refine sl_fieldAddr_ref rfl rfl rfl fo_72_3 ?_
  first
    | refine sl_load_rp1 rfl rfl rfl ag_70 rfl ?_
    | refine sl_load_blk1 rfl rfl rfl ag_70 (by repeat constructor) rfl ?_
  refine sl_append_new rfl rfl rfl rfl u_70 ⟨_, u_70, rfl⟩ el_127 (SzI.get (by repeat constructor)) (by rw [List.length_map]; omega) (fun hn12 => ?_) (fun b12 c12 z12 hn12 hc12 => ?_)
  · have hm : s.mod = [] := List.map_eq_nil_iff.mp hn12
    first
      | refine sl_fieldAddr_ptr rfl rfl rfl fo_72_3 ?_
      | refine sl_fieldAddr_rp rfl rfl rfl fo_72_3 ?_
      | refine sl_fieldAddr_ref rfl rfl rfl fo_72_3 ?_
    refine sl_stp rfl rfl rfl rfl sz_70 rfl rfl rfl (by repeat constructor) (Nat.le_of_ble_eq_true rfl) ?_
    refine sl_nil ?_
    refine sw_seq ?_
    refine sw_seq ?_
    refine sl_region ?_
    refine sl_as rfl rfl rfl ?_
    refine sl_nil ?_
    refine sw_block ?_
    refine sw_loopw (fun nX sX δX σX => ∃ (j : Nat), (1) = nX ∧ sX = ⟨36, (.cons 1 (.ptr b1 0) (.cons 2 (.ptr b2 0) (.cons 3 (.val (.int .i64 (j : Int))) .nil)))⟩ ∧ δX = [] ∧ σX = .blk b1 [.val (.list (s.alarms.map almV)), .val (.bool s.ends), .val (.bool r.some), .val (.int .i64 r.lo), .val (.int .i64 r.hi), .fix []] :: .blk b2 zeroS :: σ) ?_ ?_
    · refine ⟨_, _, _, ?_, ?_, 0, rfl, rfl, rfl, rfl⟩
      · exact ⟨rfl, by repeat constructor⟩
      · repeat constructor
    rintro nX sX δX σX ⟨j, rfl, rfl, rfl, rfl⟩
    refine sw_seq ?_
    refine sw_seq ?_
    refine sl_region ?_
    refine sl_mv rfl rfl rfl ?_
    first
      | refine sl_fieldAddr_ptr rfl rfl rfl fo_72_3 ?_
      | refine sl_fieldAddr_rp rfl rfl rfl fo_72_3 ?_
      | refine sl_fieldAddr_ref rfl rfl rfl fo_72_3 ?_
    first
      | refine sl_load_rp1 rfl rfl rfl ag_70 rfl ?_
      | refine sl_load_blk1 rfl rfl rfl ag_70 (by repeat constructor) rfl ?_
    first
      | refine sl_len rfl rfl rfl ⟨_, u_70⟩ ?_
      | refine sl_len_sl rfl rfl rfl ⟨_, u_70⟩ ?_
      | refine sl_len_w _ rfl rfl rfl ⟨_, u_70⟩ ?_
    refine sl_bin rfl rfl rfl rfl rfl ?_
    refine sl_nil ?_
    refine sw_false rfl (decide_eq_false (by show ¬ ((j : Int) < 0); omega)) ?_
    refine sw_exit ?_
    refine sw_seq ?_
    refine sl_region ?_
    first
      | refine sl_load_rpn rfl rfl rfl ag_72 sz_72 (Nat.le_of_ble_eq_true rfl) ?_
      | refine sl_load_blkn rfl rfl rfl ag_72 sz_72 (by repeat constructor) (Nat.le_of_ble_eq_true rfl) ?_
      | refine sl_load_ref rfl rfl rfl ag_72 sz_72 (Nat.le_of_ble_eq_true rfl) ?_
    refine sl_stp rfl rfl rfl rfl sz_72 rfl rfl rfl (by repeat constructor) (Nat.le_of_ble_eq_true rfl) ?_
    refine sl_nil ?_
    refine sw_ret ⟨rfl, _, _, ResD.weak (res_celln rfl rfl ag_72 sz_72 (by repeat constructor) (Nat.le_of_ble_eq_true rfl)) ((Weak.toV rfl) ), ?_, ⟨by unfold normS; rw [hm, ← hr]; rfl, rfl⟩⟩
    repeat constructor
  first
    | refine sl_fieldAddr_ptr rfl rfl rfl fo_72_3 ?_
    | refine sl_fieldAddr_rp rfl rfl rfl fo_72_3 ?_
    | refine sl_fieldAddr_ref rfl rfl rfl fo_72_3 ?_
  refine sl_stp rfl rfl rfl rfl sz_70 rfl rfl rfl (by repeat constructor) (Nat.le_of_ble_eq_true rfl) ?_
  refine sl_nil ?_
  refine sw_seq ?_
  refine sw_seq ?_
  refine sl_region ?_
  refine sl_as rfl rfl rfl ?_
  refine sl_nil ?_
  refine sw_block ?_
  refine sw_loopw (fun nX sX δX σX => ∃ (j : Nat), (s.mod.length - j) = nX ∧ sX = ⟨36, (.cons 1 (.ptr b1 0) (.cons 2 (.ptr b2 0) (.cons 3 (.val (.int .i64 (j : Int))) .nil)))⟩ ∧ δX = [] ∧ σX = .blk b1 [.val (.list (s.alarms.map almV)), .val (.bool s.ends), .val (.bool r.some), .val (.int .i64 r.lo), .val (.int .i64 r.hi), .sl b12 0 (s.mod.map nmdV).length c12] :: .blk b12 (rowsD (((mix normM s.mod j).map nmdV).map rowOf) z12) :: .blk b2 zeroS :: σ ∧ (j ≤ s.mod.length)) ?_ ?_
  · refine ⟨_, _, _, ?_, ?_, 0, rfl, rfl, rfl, rfl, Nat.zero_le _⟩
    · exact ⟨rfl, by repeat constructor⟩
    · repeat constructor
  rintro nX sX δX σX ⟨j, rfl, rfl, rfl, rfl, hj0⟩
  refine sw_seq ?_
  refine sw_seq ?_
  refine sl_region ?_
  refine sl_mv rfl rfl rfl ?_
  first
    | refine sl_fieldAddr_ptr rfl rfl rfl fo_72_3 ?_
    | refine sl_fieldAddr_rp rfl rfl rfl fo_72_3 ?_
    | refine sl_fieldAddr_ref rfl rfl rfl fo_72_3 ?_
  first
    | refine sl_load_rp1 rfl rfl rfl ag_70 rfl ?_
    | refine sl_load_blk1 rfl rfl rfl ag_70 (by repeat constructor) rfl ?_
  first
    | refine sl_len rfl rfl rfl ⟨_, u_70⟩ ?_
    | refine sl_len_sl rfl rfl rfl ⟨_, u_70⟩ ?_
    | refine sl_len_w _ rfl rfl rfl ⟨_, u_70⟩ ?_
  refine sl_bin rfl rfl rfl rfl rfl ?_
  refine sl_nil ?_
  refine sw_cond rfl (fun hj => ?_) (fun hj => ?_)
  · have hj1 : j < s.mod.length := by have := of_decide_eq_true hj; rw [List.length_map] at this; omega
    refine sw_skip ?_
    refine sw_seq ?_
    refine sw_block ?_
    refine sw_seq ?_
    refine sl_region ?_
    first
      | refine sl_fieldAddr_ptr rfl rfl rfl fo_72_3 ?_
      | refine sl_fieldAddr_rp rfl rfl rfl fo_72_3 ?_
      | refine sl_fieldAddr_ref rfl rfl rfl fo_72_3 ?_
    first
      | refine sl_load_rp1 rfl rfl rfl ag_70 rfl ?_
      | refine sl_load_blk1 rfl rfl rfl ag_70 (by repeat constructor) rfl ?_
    refine sl_mv rfl rfl rfl ?_
    refine sl_index_sl (j) rfl rfl rfl rfl u_70 sz_127 (by rw [List.length_map]; exact hj1) ?_
    first
      | refine sl_fieldAddr_ptr rfl rfl rfl fo_127_1 ?_
      | refine sl_fieldAddr_rp rfl rfl rfl fo_127_1 ?_
      | refine sl_fieldAddr_ref rfl rfl rfl fo_127_1 ?_
    first
      | refine sl_fieldAddr_ptr rfl rfl rfl fo_69_0 ?_
      | refine sl_fieldAddr_rp rfl rfl rfl fo_69_0 ?_
      | refine sl_fieldAddr_ref rfl rfl rfl fo_69_0 ?_
    refine sl_load_row1 (j) 1 rfl rfl rfl ag_4 (by repeat constructor) (rowsOk_map (fun _ => rfl)) (rows_map_get (mix_get normM hj1)) rfl ?_
    refine sl_not rfl rfl rfl ?_
    refine sl_nil ?_
    refine sw_cond rfl (fun hb => ?_) (fun hb => ?_)
    · have hb : s.mod[j].v.some = false := by simpa using hb
      refine sl_region ?_
      first
        | refine sl_fieldAddr_ptr rfl rfl rfl fo_72_3 ?_
        | refine sl_fieldAddr_rp rfl rfl rfl fo_72_3 ?_
        | refine sl_fieldAddr_ref rfl rfl rfl fo_72_3 ?_
      first
        | refine sl_load_rp1 rfl rfl rfl ag_70 rfl ?_
        | refine sl_load_blk1 rfl rfl rfl ag_70 (by repeat constructor) rfl ?_
      refine sl_mv rfl rfl rfl ?_
      refine sl_bd rfl rfl .nil bi_69 zd_69 rfl ?_
      refine sl_index_sl (j) rfl rfl rfl rfl u_70 sz_127 (by rw [List.length_map]; exact hj1) ?_
      first
        | refine sl_fieldAddr_ptr rfl rfl rfl fo_127_1 ?_
        | refine sl_fieldAddr_rp rfl rfl rfl fo_127_1 ?_
        | refine sl_fieldAddr_ref rfl rfl rfl fo_127_1 ?_
      refine sl_store_rowp (j) 1 rfl rfl rfl rfl sz_69 rfl rfl rfl (by repeat constructor) (rowsOk_map (fun _ => rfl)) (rows_map_get (mix_get normM hj1)) (Nat.le_of_ble_eq_true rfl) ((rows_map_set (a := normM s.mod[j]) (by unfold normM; rw [normV_f hb]; rfl)).trans (by rw [mix_set normM hj1])) ?_
      refine sl_nil ?_
      refine sl_region ?_
      refine sl_mv rfl rfl rfl ?_
      first
        | refine sl_inc rfl rfl rfl rfl (by omega) ?_
        | refine sl_add rfl rfl rfl rfl (by constructor <;> omega) ?_
        | refine sl_bin rfl rfl rfl rfl rfl ?_
      refine sl_as rfl rfl rfl ?_
      refine sl_nil ?_
      refine ⟨_, by omega, _, _, ?_, ?_, j + 1, rfl, rfl, rfl, rfl, by omega⟩
      · exact ⟨rfl, by repeat constructor⟩
      · repeat constructor
    have hb : s.mod[j].v.some = true := by simpa using hb
    rw [mix_same normM hj1 (normM_t hb)]
    refine sw_skip ?_
    refine sl_region ?_
    refine sl_mv rfl rfl rfl ?_
    first
      | refine sl_inc rfl rfl rfl rfl (by omega) ?_
      | refine sl_add rfl rfl rfl rfl (by constructor <;> omega) ?_
      | refine sl_bin rfl rfl rfl rfl rfl ?_
    refine sl_as rfl rfl rfl ?_
    refine sl_nil ?_
    refine ⟨_, by omega, _, _, ?_, ?_, j + 1, rfl, rfl, rfl, rfl, by omega⟩
    · exact ⟨rfl, by repeat constructor⟩
    · repeat constructor
  have hj1 : j = s.mod.length := by have := of_decide_eq_false hj; rw [List.length_map] at this; omega
  refine sw_exit ?_
  refine sw_seq ?_
  refine sw_less (σ' := .blk b1 [.val (.list (s.alarms.map almV)), .val (.bool s.ends), .val (.bool r.some), .val (.int .i64 r.lo), .val (.int .i64 r.hi), .sl b12 0 (s.mod.map nmdV).length c12] :: .blk b12 (rowsD (((mix normM s.mod j).map nmdV).map rowOf) z12) :: .blk b2 zeroS :: σ) (by repeat constructor) ?_
  refine sw_freeze_cell (i := 5) (sz := 4) rfl (by rw [List.length_map, List.length_map, mix_len]) hc12 (fun y hy => by obtain ⟨m, _, rfl⟩ := List.mem_map.mp hy; rfl) ?_
  rw [mix_all normM s.mod (Nat.le_of_eq hj1.symm)]
  refine sl_region ?_
  first
    | refine sl_load_rpn rfl rfl rfl ag_72 sz_72 (Nat.le_of_ble_eq_true rfl) ?_
    | refine sl_load_blkn rfl rfl rfl ag_72 sz_72 (by repeat constructor) (Nat.le_of_ble_eq_true rfl) ?_
    | refine sl_load_ref rfl rfl rfl ag_72 sz_72 (Nat.le_of_ble_eq_true rfl) ?_
  refine sl_stp rfl rfl rfl rfl sz_72 rfl rfl rfl (by repeat constructor) (Nat.le_of_ble_eq_true rfl) ?_
  refine sl_nil ?_
  refine sw_ret ⟨rfl, _, _, ResD.weak (res_celln rfl rfl ag_72 sz_72 (by repeat constructor) (Nat.le_of_ble_eq_true rfl)) ((Weak.toV rfl) ), ?_, ⟨by unfold normS; rw [← hr]; rfl, rfl⟩⟩
  repeat constructor

end Go.Proofs.Ytioechdfghglhaa

/- Walks: printed by a program of this session out of its script CodeV. -/
namespace Go.Proofs.Ytioechdfghglhaa
set_option linter.unusedVariables false
set_option linter.unusedSimpArgs false
set_option maxRecDepth 4000
set_option maxHeartbeats 4000000
open Go Go.RowKit SL


/-- CodeBack. -/
theorem codeBack_ok (ps : List Prt) (hok : ∀ p ∈ ps, PrtOk p) :
    FSpec Try.prog 10 [.val (.list (ps.map prtV))] [] (fun d σ' => d = .val (.bool true) ∧ σ' = []) := by
  refine spec_of_sw Try.func10 rfl ?_
  refine sw_seq ?_
  refine sl_region ?_
  refine sl_as rfl rfl rfl ?_
  refine sl_nil ?_
  refine sw_seq ?_
  refine sw_seq ?_
  refine sl_region ?_
  refine sl_callf rfl rfl cal_15 (known2_ok []) ?_ ?_ ?_ (fun _ _ h => h.elim)
  · repeat constructor
  · repeat constructor
  rintro _ _ ⟨rfl, rfl⟩
  refine sl_not rfl rfl rfl ?_
  refine sl_nil ?_
  refine sw_false rfl (rfl) ?_
  refine sw_skip ?_
  refine sw_seq ?_
  refine sw_seq ?_
  refine sl_region ?_
  refine sl_mv rfl rfl rfl ?_
  refine sl_callf rfl rfl cal_35 (light_ok ps []) ?_ ?_ ?_ (fun _ _ h => h.elim)
  · repeat constructor
  · repeat constructor
  rintro _ _ ⟨bb, rfl, hb, rfl⟩
  refine sl_not rfl rfl rfl ?_
  refine sl_nil ?_
  refine sw_cond rfl (fun hnl => ?_) (fun hnl => ?_)
  · refine sw_seq ?_
    refine sl_region ?_
    refine sl_as rfl rfl rfl ?_
    refine sl_nil ?_
    refine sw_ret ⟨rfl, _, _, res_one rfl rfl, ?_, ⟨rfl, rfl⟩⟩
    repeat constructor
  obtain ⟨hn, hlt⟩ := hb (by simpa using hnl)
  refine sw_skip ?_
  refine sw_seq ?_
  refine sl_region ?_
  refine sl_as rfl rfl rfl ?_
  refine sl_nil ?_
  refine sw_seq ?_
  refine sw_seq ?_
  refine sw_own (t := 3) (sz := 1) rfl (fun u0 => ?_)
  refine sl_region ?_
  refine sl_as rfl rfl rfl ?_
  refine sl_nil ?_
  refine sw_block ?_
  refine sw_loopw (fun nX sX δX σX => ∃ (k : Nat) (u : Value) (m : List UInt8), (ps.length - k) = nX ∧ sX = ⟨136, (.cons 0 (.val (.list (ps.map prtV))) (.cons 3 (.own u (m.map byteV)) (.cons 4 (.val (.int .i64 (k : Int))) .nil)))⟩ ∧ δX = [] ∧ σX = .spare u 1 :: [] ∧ (k ≤ ps.length) ∧ (m = ([] : List UInt8) ++ (ps.take k).flatMap encPart) ∧ (∀ p ∈ ps.take k, ∀ a ∈ p.s.alarms, AlmI32 a)) ?_ ?_
  · refine ⟨_, _, _, ?_, ?_, 0, u0, [], rfl, rfl, rfl, rfl, Nat.zero_le _, by simp, by simp⟩
    · exact ⟨rfl, by repeat constructor⟩
    · repeat constructor
  rintro nX sX δX σX ⟨k, u, m, rfl, rfl, rfl, rfl, hk0, hm0, h32⟩
  refine sw_seq ?_
  refine sw_seq ?_
  refine sl_region ?_
  refine sl_mv rfl rfl rfl ?_
  refine sl_mv rfl rfl rfl ?_
  first
    | refine sl_len rfl rfl rfl ⟨_, u_64⟩ ?_
    | refine sl_len_sl rfl rfl rfl ⟨_, u_64⟩ ?_
    | refine sl_len_w _ rfl rfl rfl ⟨_, u_64⟩ ?_
  refine sl_bin rfl rfl rfl rfl rfl ?_
  refine sl_nil ?_
  refine sw_cond rfl (fun hk => ?_) (fun hk => ?_)
  · have hk : k < ps.length := by simpa using hk
    have hok1 := hok ps[k] (List.getElem_mem hk)
    have hlt1 := hlt ps[k] (List.getElem_mem hk)
    have hml : m.length ≤ 20000 := by
      have := flat_len (f := encPart) (c := 1100) (ns := ps) (fun p hp => encPart_len (hok p hp) (hlt p hp)) k
      rw [hm0]; simp only [List.length_append, List.length_nil]; omega
    have hal := hlt1.2.1
    have e8 : m ++ encPart ps[k] = ([] : List UInt8) ++ (ps.take (k + 1)).flatMap encPart := by rw [flat_snoc hk, hm0]
    refine sw_skip ?_
    refine sw_seq ?_
    refine sw_block ?_
    refine sw_seq ?_
    refine sw_seq ?_
    refine sl_region ?_
    refine sl_as rfl rfl rfl ?_
    refine sl_nil ?_
    refine sw_block ?_
    refine sw_loopw (fun nX sX δX σX => ∃ (j : Nat), (ps[k].s.alarms.length - j) = nX ∧ sX = ⟨136, (.cons 0 (.val (.list (ps.map prtV))) (.cons 3 (.own u (m.map byteV)) (.cons 4 (.val (.int .i64 (k : Int))) (.cons 5 (.val (.int .i64 (j : Int))) .nil))))⟩ ∧ δX = [] ∧ σX = .spare u 1 :: [] ∧ (j ≤ ps[k].s.alarms.length) ∧ (∀ a ∈ ps[k].s.alarms.take j, AlmI32 a)) ?_ ?_
    · refine ⟨_, _, _, ?_, ?_, 0, rfl, rfl, rfl, rfl, Nat.zero_le _, by simp⟩
      · exact ⟨rfl, by repeat constructor⟩
      · repeat constructor
    rintro nX sX δX σX ⟨j, rfl, rfl, rfl, rfl, hj0, h32k⟩
    refine sw_seq ?_
    refine sw_seq ?_
    refine sl_region ?_
    refine sl_mv rfl rfl rfl ?_
    refine sl_mv rfl rfl rfl ?_
    refine sl_mv rfl rfl rfl ?_
    refine sl_indexAddr' rfl rfl rfl rfl u_64 sz_74 (by omega) (idx_map hk) rfl ?_
    first
      | refine sl_fieldAddr_ptr rfl rfl rfl fo_74_3 ?_
      | refine sl_fieldAddr_rp rfl rfl rfl fo_74_3 ?_
      | refine sl_fieldAddr_ref rfl rfl rfl fo_74_3 ?_
    first
      | refine sl_fieldAddr_ptr rfl rfl rfl fo_72_0 ?_
      | refine sl_fieldAddr_rp rfl rfl rfl fo_72_0 ?_
      | refine sl_fieldAddr_ref rfl rfl rfl fo_72_0 ?_
    first
      | refine sl_load_rp1 rfl rfl rfl ag_67 rfl ?_
      | refine sl_load_blk1 rfl rfl rfl ag_67 (by repeat constructor) rfl ?_
    first
      | refine sl_len rfl rfl rfl ⟨_, u_67⟩ ?_
      | refine sl_len_sl rfl rfl rfl ⟨_, u_67⟩ ?_
      | refine sl_len_w _ rfl rfl rfl ⟨_, u_67⟩ ?_
    refine sl_bin rfl rfl rfl rfl rfl ?_
    refine sl_nil ?_
    refine sw_cond rfl (fun hj => ?_) (fun hj => ?_)
    · have hj : j < ps[k].s.alarms.length := by have := of_decide_eq_true hj; rw [List.length_map] at this; omega
      refine sw_skip ?_
      refine sw_seq ?_
      refine sw_block ?_
      refine sw_seq ?_
      refine sl_region ?_
      refine sl_mv rfl rfl rfl ?_
      refine sl_mv rfl rfl rfl ?_
      refine sl_indexAddr' rfl rfl rfl rfl u_64 sz_74 (by omega) (idx_map hk) rfl ?_
      first
        | refine sl_fieldAddr_ptr rfl rfl rfl fo_74_3 ?_
        | refine sl_fieldAddr_rp rfl rfl rfl fo_74_3 ?_
        | refine sl_fieldAddr_ref rfl rfl rfl fo_74_3 ?_
      first
        | refine sl_fieldAddr_ptr rfl rfl rfl fo_72_0 ?_
        | refine sl_fieldAddr_rp rfl rfl rfl fo_72_0 ?_
        | refine sl_fieldAddr_ref rfl rfl rfl fo_72_0 ?_
      first
        | refine sl_load_rp1 rfl rfl rfl ag_67 rfl ?_
        | refine sl_load_blk1 rfl rfl rfl ag_67 (by repeat constructor) rfl ?_
      refine sl_mv rfl rfl rfl ?_
      refine sl_indexAddr' rfl rfl rfl rfl u_67 sz_86 (by omega) (idx_map hj) rfl ?_
      first
        | refine sl_load_rpn rfl rfl rfl ag_86 sz_86 (Nat.le_of_ble_eq_true rfl) ?_
        | refine sl_load_blkn rfl rfl rfl ag_86 sz_86 (by repeat constructor) (Nat.le_of_ble_eq_true rfl) ?_
        | refine sl_load_ref rfl rfl rfl ag_86 sz_86 (Nat.le_of_ble_eq_true rfl) ?_
      refine sl_alloc rfl rfl zd_86 (fun b6 => ?_)
      refine sl_stp rfl rfl rfl rfl sz_86 rfl rfl rfl (by repeat constructor) (Nat.le_of_ble_eq_true rfl) ?_
      refine sl_nil ?_
      refine sw_seq ?_
      refine sl_region ?_
      first
        | refine sl_fieldAddr_ptr rfl rfl rfl fo_86_0 ?_
        | refine sl_fieldAddr_rp rfl rfl rfl fo_86_0 ?_
        | refine sl_fieldAddr_ref rfl rfl rfl fo_86_0 ?_
      first
        | refine sl_load_rp1 rfl rfl rfl ag_3 rfl ?_
        | refine sl_load_blk1 rfl rfl rfl ag_3 (by repeat constructor) rfl ?_
      refine sl_bin rfl rfl rfl rfl rfl ?_
      refine sl_mv rfl rfl rfl ?_
      refine sl_case_at 44 rfl (fun g1 => ?_) (fun g1 => ?_)
      · refine sl_guard_n rfl rfl rfl g1 ?_
        refine sl_guard_n rfl rfl rfl g1 ?_
        refine sl_guard_n rfl rfl rfl g1 ?_
        refine sl_pk_t rfl rfl rfl g1 rfl ?_
        refine sl_mv rfl rfl rfl ?_
        refine sl_guard_n rfl rfl rfl (rfl) ?_
        refine sl_guard_n rfl rfl rfl (rfl) ?_
        refine sl_guard_n rfl rfl rfl (rfl) ?_
        refine sl_pk_t rfl rfl rfl (rfl) rfl ?_
        refine sl_mv rfl rfl rfl ?_
        refine sl_guard_n rfl rfl rfl (rfl) ?_
        refine sl_guard_n rfl rfl rfl (rfl) ?_
        refine sl_guard_n rfl rfl rfl (rfl) ?_
        refine sl_pk_t rfl rfl rfl (rfl) rfl ?_
        refine sl_nil ?_
        refine sw_true rfl (rfl) ?_
        refine sw_seq ?_
        refine sl_region ?_
        refine sl_as rfl rfl rfl ?_
        refine sl_nil ?_
        refine sw_ret ⟨rfl, _, _, res_one rfl rfl, ?_, ⟨rfl, rfl⟩⟩
        repeat constructor
      refine sl_guard_y rfl rfl rfl g1 ?_
      first
        | refine sl_fieldAddr_ptr rfl rfl rfl fo_86_0 ?_
        | refine sl_fieldAddr_rp rfl rfl rfl fo_86_0 ?_
        | refine sl_fieldAddr_ref rfl rfl rfl fo_86_0 ?_
      refine sl_guard_y rfl rfl rfl g1 ?_
      first
        | refine sl_load_rp1 rfl rfl rfl ag_3 rfl ?_
        | refine sl_load_blk1 rfl rfl rfl ag_3 (by repeat constructor) rfl ?_
      refine sl_guard_y rfl rfl rfl g1 ?_
      refine sl_bin rfl rfl rfl rfl rfl ?_
      refine sl_pk_f rfl rfl rfl g1 rfl ?_
      refine sl_mv rfl rfl rfl ?_
      refine sl_case_at 49 rfl (fun g2 => ?_) (fun g2 => ?_)
      · refine sl_guard_n rfl rfl rfl g2 ?_
        refine sl_guard_n rfl rfl rfl g2 ?_
        refine sl_guard_n rfl rfl rfl g2 ?_
        refine sl_pk_t rfl rfl rfl g2 rfl ?_
        refine sl_mv rfl rfl rfl ?_
        refine sl_guard_n rfl rfl rfl (rfl) ?_
        refine sl_guard_n rfl rfl rfl (rfl) ?_
        refine sl_guard_n rfl rfl rfl (rfl) ?_
        refine sl_pk_t rfl rfl rfl (rfl) rfl ?_
        refine sl_nil ?_
        refine sw_true rfl (rfl) ?_
        refine sw_seq ?_
        refine sl_region ?_
        refine sl_as rfl rfl rfl ?_
        refine sl_nil ?_
        refine sw_ret ⟨rfl, _, _, res_one rfl rfl, ?_, ⟨rfl, rfl⟩⟩
        repeat constructor
      refine sl_guard_y rfl rfl rfl g2 ?_
      first
        | refine sl_fieldAddr_ptr rfl rfl rfl fo_86_1 ?_
        | refine sl_fieldAddr_rp rfl rfl rfl fo_86_1 ?_
        | refine sl_fieldAddr_ref rfl rfl rfl fo_86_1 ?_
      refine sl_guard_y rfl rfl rfl g2 ?_
      first
        | refine sl_load_rp1 rfl rfl rfl ag_3 rfl ?_
        | refine sl_load_blk1 rfl rfl rfl ag_3 (by repeat constructor) rfl ?_
      refine sl_guard_y rfl rfl rfl g2 ?_
      refine sl_bin rfl rfl rfl rfl rfl ?_
      refine sl_pk_f rfl rfl rfl g2 rfl ?_
      refine sl_mv rfl rfl rfl ?_
      refine sl_case_at 54 rfl (fun g3 => ?_) (fun g3 => ?_)
      · refine sl_guard_n rfl rfl rfl g3 ?_
        refine sl_guard_n rfl rfl rfl g3 ?_
        refine sl_guard_n rfl rfl rfl g3 ?_
        refine sl_pk_t rfl rfl rfl g3 rfl ?_
        refine sl_nil ?_
        refine sw_true rfl (rfl) ?_
        refine sw_seq ?_
        refine sl_region ?_
        refine sl_as rfl rfl rfl ?_
        refine sl_nil ?_
        refine sw_ret ⟨rfl, _, _, res_one rfl rfl, ?_, ⟨rfl, rfl⟩⟩
        repeat constructor
      refine sl_guard_y rfl rfl rfl g3 ?_
      first
        | refine sl_fieldAddr_ptr rfl rfl rfl fo_86_1 ?_
        | refine sl_fieldAddr_rp rfl rfl rfl fo_86_1 ?_
        | refine sl_fieldAddr_ref rfl rfl rfl fo_86_1 ?_
      refine sl_guard_y rfl rfl rfl g3 ?_
      first
        | refine sl_load_rp1 rfl rfl rfl ag_3 rfl ?_
        | refine sl_load_blk1 rfl rfl rfl ag_3 (by repeat constructor) rfl ?_
      refine sl_guard_y rfl rfl rfl g3 ?_
      refine sl_bin rfl rfl rfl rfl rfl ?_
      refine sl_pk_f rfl rfl rfl g3 rfl ?_
      refine sl_nil ?_
      refine sw_cond rfl (fun g4 => ?_) (fun g4 => ?_)
      · refine sw_seq ?_
        refine sl_region ?_
        refine sl_as rfl rfl rfl ?_
        refine sl_nil ?_
        refine sw_ret ⟨rfl, _, _, res_one rfl rfl, ?_, ⟨rfl, rfl⟩⟩
        repeat constructor
      have h32j : AlmI32 ps[k].s.alarms[j] := ⟨⟨by have := of_decide_eq_false g1; omega, by have := of_decide_eq_false g2; omega⟩, ⟨by have := of_decide_eq_false g3; omega, by have := of_decide_eq_false g4; omega⟩⟩
      refine sw_skip ?_
      refine sl_region ?_
      refine sl_mv rfl rfl rfl ?_
      first
        | refine sl_inc rfl rfl rfl rfl (by omega) ?_
        | refine sl_add rfl rfl rfl rfl (by constructor <;> omega) ?_
        | refine sl_bin rfl rfl rfl rfl rfl ?_
      refine sl_as rfl rfl rfl ?_
      refine sl_nil ?_
      refine ⟨_, by omega, _, _, ?_, ?_, j + 1, rfl, rfl, rfl, rfl, by omega, all_take_snoc h32k hj h32j⟩
      · exact ⟨rfl, by repeat constructor⟩
      · repeat constructor
    have hj : j = ps[k].s.alarms.length := by have := of_decide_eq_false hj; rw [List.length_map] at this; omega
    rw [hj, List.take_length] at h32k
    refine sw_exit ?_
    refine sl_region ?_
    refine sl_mv rfl rfl rfl ?_
    refine sl_mv rfl rfl rfl ?_
    refine sl_mv rfl rfl rfl ?_
    refine sl_indexAddr' rfl rfl rfl rfl u_64 sz_74 (by omega) (idx_map hk) rfl ?_
    first
      | refine sl_load_rpn rfl rfl rfl ag_74 sz_74 (Nat.le_of_ble_eq_true rfl) ?_
      | refine sl_load_blkn rfl rfl rfl ag_74 sz_74 (by repeat constructor) (Nat.le_of_ble_eq_true rfl) ?_
      | refine sl_load_ref rfl rfl rfl ag_74 sz_74 (Nat.le_of_ble_eq_true rfl) ?_
    refine sl_callf rfl rfl cal_36 (put_ok u m ps[k] [] hok1 hlt1 (by omega)) ?_ ?_ ?_ (fun _ _ h => h.elim)
    · repeat constructor
    · repeat constructor
    rintro _ _ ⟨u2, rfl, rfl⟩
    refine sl_as rfl rfl rfl ?_
    refine sl_nil ?_
    refine sl_region ?_
    refine sl_mv rfl rfl rfl ?_
    first
      | refine sl_inc rfl rfl rfl rfl (by omega) ?_
      | refine sl_add rfl rfl rfl rfl (by constructor <;> omega) ?_
      | refine sl_bin rfl rfl rfl rfl rfl ?_
    refine sl_as rfl rfl rfl ?_
    refine sl_nil ?_
    refine ⟨_, by omega, _, _, ?_, ?_, k + 1, u2, _, rfl, rfl, rfl, rfl, by omega, e8, all_take_snoc h32 hk h32k⟩
    · exact ⟨rfl, by repeat constructor⟩
    · repeat constructor
  have hk : k = ps.length := by have h9 : ¬ k < ps.length := (by simpa using hk); omega
  subst hk
  rw [List.take_length] at hm0 h32
  rw [List.nil_append] at hm0
  have hml : m.length ≤ 20000 := by
    have := flat_allc (f := encPart) (c := 1100) (ns := ps) (fun p hp => encPart_len (hok p hp) (hlt p hp))
    rw [hm0]; omega
  refine sw_exit ?_
  refine sw_seq ?_
  refine sl_region ?_
  refine sl_mv rfl rfl rfl ?_
  refine sl_callf rfl rfl cal_18 (newReader_ok m (.spare u 1 :: []) (by omega)) ?_ ?_ ?_ (fun _ _ h => h.elim)
  · repeat constructor
  · repeat constructor
  rintro _ _ ⟨q, rfl, rfl⟩
  refine sl_as rfl rfl rfl ?_
  refine sl_nil ?_
  refine sw_seq ?_
  refine sw_seq ?_
  refine sl_region ?_
  refine sl_as rfl rfl rfl ?_
  refine sl_nil ?_
  refine sw_block ?_
  refine sw_loopw (fun nX sX δX σX => ∃ (i : Nat) (l : List UInt8) (c : Chunk), (ps.length - i) = nX ∧ sX = ⟨136, (.cons 0 (.val (.list (ps.map prtV))) (.cons 7 (.ptr q 0) (.cons 8 (.val (.int .i64 (i : Int))) .nil)))⟩ ∧ δX = [] ∧ σX = c :: [] ∧ (i ≤ ps.length) ∧ (l = (ps.drop i).flatMap encPart) ∧ (Rdr q (some l) c)) ?_ ?_
  · refine ⟨_, _, _, ?_, ?_, 0, m, _, rfl, rfl, rfl, rfl, Nat.zero_le _, hm0, ⟨rfl, by omega⟩⟩
    · exact ⟨rfl, by repeat constructor⟩
    · repeat constructor
  rintro nX sX δX σX ⟨i, l, c, rfl, rfl, rfl, rfl, hi, hl, h1⟩
  refine sw_seq ?_
  refine sw_seq ?_
  refine sl_region ?_
  refine sl_mv rfl rfl rfl ?_
  refine sl_mv rfl rfl rfl ?_
  first
    | refine sl_len rfl rfl rfl ⟨_, u_64⟩ ?_
    | refine sl_len_sl rfl rfl rfl ⟨_, u_64⟩ ?_
    | refine sl_len_w _ rfl rfl rfl ⟨_, u_64⟩ ?_
  refine sl_bin rfl rfl rfl rfl rfl ?_
  refine sl_nil ?_
  refine sw_cond rfl (fun hj => ?_) (fun hj => ?_)
  · have hj1 : i < ps.length := by simpa using hj
    have hok1 := hok ps[i] (List.getElem_mem hj1)
    have hlt1 := hlt ps[i] (List.getElem_mem hj1)
    have h321 := h32 ps[i] (List.getElem_mem hj1)
    rw [drop_flat hj1] at hl
    refine sw_skip ?_
    refine sw_seq ?_
    refine sw_block ?_
    refine sw_seq ?_
    refine sl_region ?_
    refine sl_as rfl rfl rfl ?_
    refine sl_nil ?_
    refine sw_seq ?_
    refine sw_seq ?_
    refine sl_region ?_
    refine sl_mv rfl rfl rfl ?_
    refine sl_mv rfl rfl rfl ?_
    refine sl_indexAddr' rfl rfl rfl rfl u_64 sz_74 (by omega) (idx_map hj1) rfl ?_
    first
      | refine sl_fieldAddr_ptr rfl rfl rfl fo_74_0 ?_
      | refine sl_fieldAddr_rp rfl rfl rfl fo_74_0 ?_
      | refine sl_fieldAddr_ref rfl rfl rfl fo_74_0 ?_
    first
      | refine sl_load_rp1 rfl rfl rfl ag_5 rfl ?_
      | refine sl_load_blk1 rfl rfl rfl ag_5 (by repeat constructor) rfl ?_
    refine sl_rem rfl rfl rfl rfl (by decide) ?_
    refine sl_set 78 (.val (.int .u8 ((ps[i].what.toNat % 5 : Nat) : Int))) (rem5 ps[i].what) ?_
    refine sl_nil ?_
    refine sw_block ?_
    refine sw_seq ?_
    refine sl_region ?_
    refine sl_bin rfl rfl rfl rfl rfl ?_
    refine sl_as rfl rfl rfl ?_
    refine sl_nil ?_
    refine sw_cond rfl (fun h0 => ?_) (fun h0 => ?_)
    · rw [encPart0 (eq5 h0)] at hl
      have e := rd_enc (z := 0) hl (decN_enc hok1.1 _)
      refine sa_start [] mixed ?_
      refine sa_take 0 rfl rfl (by kernel_rfl) .nil (pu_mv rfl rfl) ?_
      refine sa_take 2 rfl rfl (by kernel_rfl) .nil (pu_mv rfl rfl) ?_
      refine sa_take 3 rfl rfl (by kernel_rfl) .nil (pu_mv rfl rfl) ?_
      refine sa_take 4 rfl rfl (by kernel_rfl) .nil (pu_indexAddr rfl rfl rfl u_64 sz_74 (by omega) (idx_map hj1) rfl) ?_
      first
        | refine sa_take 5 rfl rfl (by kernel_rfl) .nil (pu_fieldAddr_ptr rfl rfl fo_74_1) ?_
        | refine sa_take 5 rfl rfl (by kernel_rfl) .nil (pu_fieldAddr_rp rfl rfl fo_74_1) ?_
        | refine sa_take 5 rfl rfl (by kernel_rfl) .nil (pu_fieldAddr_ref rfl rfl fo_74_1) ?_
      refine sa_take 6 rfl rfl (by kernel_rfl) .nil (pu_load_rp1 rfl rfl ag_37 rfl) ?_
      refine sa_one 1 (by kernel_rfl) rfl ?_
      refine sl_callf rfl rfl cal_33 (pNum_ok q (some l) c [] h1) ?_ ?_ ?_ (fun _ _ h => h.elim)
      · repeat constructor
      · repeat constructor
      rintro _ _ ⟨rfl, c3, h3, rfl⟩
      refine sl_nil ⟨.nil, ?_⟩
      rw [e] at h3 ⊢
      refine sa_take 7 rfl rfl (by kernel_rfl) .nil (pu_bin rfl rfl rfl rfl) ?_
      refine sa_set 97 (.val (.bool true)) (self_u64 _) ?_
      refine sa_one 8 (by kernel_rfl) rfl ?_
      refine sl_as rfl rfl rfl ?_
      refine sl_nil ⟨.nil, ?_⟩
      refine sa_done (by kernel_rfl) ?_
      refine sw_seq ?_
      refine sl_region ?_
      refine sl_mv rfl rfl rfl ?_
      refine sl_not rfl rfl rfl ?_
      refine sl_nil ?_
      refine sw_false rfl (rfl) ?_
      refine sw_skip ?_
      refine sl_region ?_
      refine sl_mv rfl rfl rfl ?_
      first
        | refine sl_inc rfl rfl rfl rfl (by omega) ?_
        | refine sl_add rfl rfl rfl rfl (by constructor <;> omega) ?_
        | refine sl_bin rfl rfl rfl rfl rfl ?_
      refine sl_as rfl rfl rfl ?_
      refine sl_nil ?_
      refine ⟨_, by omega, _, _, ?_, ?_, i + 1, _, c3, rfl, rfl, rfl, rfl, by omega, rfl, h3⟩
      · exact ⟨rfl, by repeat constructor⟩
      · repeat constructor
    refine sw_seq ?_
    refine sl_region ?_
    refine sl_bin rfl rfl rfl rfl rfl ?_
    refine sl_as rfl rfl rfl ?_
    refine sl_nil ?_
    refine sw_cond rfl (fun h0b => ?_) (fun h0b => ?_)
    · rw [encPart1 (eq5 h0b)] at hl
      have e := rd_enc (z := 0) hl (decI_enc (wrap_i64_ok _) _)
      refine sa_start [] mixed ?_
      refine sa_take 0 rfl rfl (by kernel_rfl) .nil (pu_mv rfl rfl) ?_
      refine sa_take 2 rfl rfl (by kernel_rfl) .nil (pu_mv rfl rfl) ?_
      refine sa_take 3 rfl rfl (by kernel_rfl) .nil (pu_mv rfl rfl) ?_
      refine sa_take 4 rfl rfl (by kernel_rfl) .nil (pu_indexAddr rfl rfl rfl u_64 sz_74 (by omega) (idx_map hj1) rfl) ?_
      first
        | refine sa_take 5 rfl rfl (by kernel_rfl) .nil (pu_fieldAddr_ptr rfl rfl fo_74_1) ?_
        | refine sa_take 5 rfl rfl (by kernel_rfl) .nil (pu_fieldAddr_rp rfl rfl fo_74_1) ?_
        | refine sa_take 5 rfl rfl (by kernel_rfl) .nil (pu_fieldAddr_ref rfl rfl fo_74_1) ?_
      refine sa_take 6 rfl rfl (by kernel_rfl) .nil (pu_load_rp1 rfl rfl ag_37 rfl) ?_
      refine sa_take 7 rfl rfl (by kernel_rfl) .nil (pu_conv_int rfl rfl is_37 u_2) ?_
      refine sa_one 1 (by kernel_rfl) rfl ?_
      refine sl_callf rfl rfl cal_20 (pInt_ok q (some l) c [] h1) ?_ ?_ ?_ (fun _ _ h => h.elim)
      · repeat constructor
      · repeat constructor
      rintro _ _ ⟨rfl, c3, h3, rfl⟩
      refine sl_nil ⟨.nil, ?_⟩
      rw [e] at h3 ⊢
      refine sa_take 8 rfl rfl (by kernel_rfl) .nil (pu_bin rfl rfl rfl rfl) ?_
      refine sa_set 108 (.val (.bool true)) (self_i64 _) ?_
      refine sa_one 9 (by kernel_rfl) rfl ?_
      refine sl_as rfl rfl rfl ?_
      refine sl_nil ⟨.nil, ?_⟩
      refine sa_done (by kernel_rfl) ?_
      refine sw_seq ?_
      refine sl_region ?_
      refine sl_mv rfl rfl rfl ?_
      refine sl_not rfl rfl rfl ?_
      refine sl_nil ?_
      refine sw_false rfl (rfl) ?_
      refine sw_skip ?_
      refine sl_region ?_
      refine sl_mv rfl rfl rfl ?_
      first
        | refine sl_inc rfl rfl rfl rfl (by omega) ?_
        | refine sl_add rfl rfl rfl rfl (by constructor <;> omega) ?_
        | refine sl_bin rfl rfl rfl rfl rfl ?_
      refine sl_as rfl rfl rfl ?_
      refine sl_nil ?_
      refine ⟨_, by omega, _, _, ?_, ?_, i + 1, _, c3, rfl, rfl, rfl, rfl, by omega, rfl, h3⟩
      · exact ⟨rfl, by repeat constructor⟩
      · repeat constructor
    refine sw_seq ?_
    refine sl_region ?_
    refine sl_bin rfl rfl rfl rfl rfl ?_
    refine sl_as rfl rfl rfl ?_
    refine sl_nil ?_
    refine sw_cond rfl (fun h0c => ?_) (fun h0c => ?_)
    · rw [encPart2 (eq5 h0c)] at hl
      have e := rd_enc (z := []) hl (decT_enc (by have := hlt1.1; omega) _)
      refine sa_start [] mixed ?_
      refine sa_take 0 rfl rfl (by kernel_rfl) .nil (pu_mv rfl rfl) ?_
      refine sa_take 2 rfl rfl (by kernel_rfl) .nil (pu_mv rfl rfl) ?_
      refine sa_take 3 rfl rfl (by kernel_rfl) .nil (pu_mv rfl rfl) ?_
      refine sa_take 4 rfl rfl (by kernel_rfl) .nil (pu_indexAddr rfl rfl rfl u_64 sz_74 (by omega) (idx_map hj1) rfl) ?_
      first
        | refine sa_take 5 rfl rfl (by kernel_rfl) .nil (pu_fieldAddr_ptr rfl rfl fo_74_2) ?_
        | refine sa_take 5 rfl rfl (by kernel_rfl) .nil (pu_fieldAddr_rp rfl rfl fo_74_2) ?_
        | refine sa_take 5 rfl rfl (by kernel_rfl) .nil (pu_fieldAddr_ref rfl rfl fo_74_2) ?_
      refine sa_take 6 rfl rfl (by kernel_rfl) .nil (pu_load_rp1 rfl rfl ag_9 rfl) ?_
      refine sa_one 1 (by kernel_rfl) rfl ?_
      refine sl_callf rfl rfl cal_32 (pText_ok q (some l) c [] h1) ?_ ?_ ?_ (fun _ _ h => h.elim)
      · repeat constructor
      · repeat constructor
      rintro _ _ ⟨rfl, c3, h3, rfl⟩
      refine sl_nil ⟨.nil, ?_⟩
      rw [e] at h3 ⊢
      refine sa_take 7 rfl rfl (by kernel_rfl) .nil (pu_str rfl rfl rfl rfl) ?_
      refine sa_set 118 (.val (.bool true)) (self_str _) ?_
      refine sa_one 8 (by kernel_rfl) rfl ?_
      refine sl_as rfl rfl rfl ?_
      refine sl_nil ⟨.nil, ?_⟩
      refine sa_done (by kernel_rfl) ?_
      refine sw_seq ?_
      refine sl_region ?_
      refine sl_mv rfl rfl rfl ?_
      refine sl_not rfl rfl rfl ?_
      refine sl_nil ?_
      refine sw_false rfl (rfl) ?_
      refine sw_skip ?_
      refine sl_region ?_
      refine sl_mv rfl rfl rfl ?_
      first
        | refine sl_inc rfl rfl rfl rfl (by omega) ?_
        | refine sl_add rfl rfl rfl rfl (by constructor <;> omega) ?_
        | refine sl_bin rfl rfl rfl rfl rfl ?_
      refine sl_as rfl rfl rfl ?_
      refine sl_nil ?_
      refine ⟨_, by omega, _, _, ?_, ?_, i + 1, _, c3, rfl, rfl, rfl, rfl, by omega, rfl, h3⟩
      · exact ⟨rfl, by repeat constructor⟩
      · repeat constructor
    refine sw_seq ?_
    refine sl_region ?_
    refine sl_bin rfl rfl rfl rfl rfl ?_
    refine sl_as rfl rfl rfl ?_
    refine sl_nil ?_
    refine sw_cond rfl (fun h0d => ?_) (fun h0d => ?_)
    · rw [encPart3 (eq5 h0d)] at hl
      have e := rd_enc (z := false) hl (decB_enc _ _)
      refine sa_start [] mixed ?_
      refine sa_take 0 rfl rfl (by kernel_rfl) .nil (pu_mv rfl rfl) ?_
      refine sa_take 2 rfl rfl (by kernel_rfl) .nil (pu_mv rfl rfl) ?_
      refine sa_take 3 rfl rfl (by kernel_rfl) .nil (pu_mv rfl rfl) ?_
      refine sa_take 4 rfl rfl (by kernel_rfl) .nil (pu_indexAddr rfl rfl rfl u_64 sz_74 (by omega) (idx_map hj1) rfl) ?_
      first
        | refine sa_take 5 rfl rfl (by kernel_rfl) .nil (pu_fieldAddr_ptr rfl rfl fo_74_1) ?_
        | refine sa_take 5 rfl rfl (by kernel_rfl) .nil (pu_fieldAddr_rp rfl rfl fo_74_1) ?_
        | refine sa_take 5 rfl rfl (by kernel_rfl) .nil (pu_fieldAddr_ref rfl rfl fo_74_1) ?_
      refine sa_take 6 rfl rfl (by kernel_rfl) .nil (pu_load_rp1 rfl rfl ag_37 rfl) ?_
      refine sa_take 7 rfl rfl (by kernel_rfl) .nil (pu_rem rfl rfl rfl (by decide)) ?_
      refine sa_take 8 rfl rfl (by kernel_rfl) .nil (pu_bin rfl rfl rfl rfl) ?_
      refine sa_set 129 (.val (boolV (ps[i].n % 2 == 1))) (odd_bool ps[i].n) ?_
      refine sa_one 1 (by kernel_rfl) rfl ?_
      refine sl_callf rfl rfl cal_34 (pBool_ok q (some l) c [] h1) ?_ ?_ ?_ (fun _ _ h => h.elim)
      · repeat constructor
      · repeat constructor
      rintro _ _ ⟨rfl, c3, h3, rfl⟩
      refine sl_nil ⟨.nil, ?_⟩
      rw [e] at h3 ⊢
      refine sa_take 9 rfl rfl (by kernel_rfl) .nil (pu_bool_eq rfl rfl rfl u_4) ?_
      refine sa_set 130 (.val (.bool true)) (self_bool _) ?_
      refine sa_one 10 (by kernel_rfl) rfl ?_
      refine sl_as rfl rfl rfl ?_
      refine sl_nil ⟨.nil, ?_⟩
      refine sa_done (by kernel_rfl) ?_
      refine sw_seq ?_
      refine sl_region ?_
      refine sl_mv rfl rfl rfl ?_
      refine sl_not rfl rfl rfl ?_
      refine sl_nil ?_
      refine sw_false rfl (rfl) ?_
      refine sw_skip ?_
      refine sl_region ?_
      refine sl_mv rfl rfl rfl ?_
      first
        | refine sl_inc rfl rfl rfl rfl (by omega) ?_
        | refine sl_add rfl rfl rfl rfl (by constructor <;> omega) ?_
        | refine sl_bin rfl rfl rfl rfl rfl ?_
      refine sl_as rfl rfl rfl ?_
      refine sl_nil ?_
      refine ⟨_, by omega, _, _, ?_, ?_, i + 1, _, c3, rfl, rfl, rfl, rfl, by omega, rfl, h3⟩
      · exact ⟨rfl, by repeat constructor⟩
      · repeat constructor
    rw [encPart4 (ne5 h0) (ne5 h0b) (ne5 h0c) (ne5 h0d)] at hl
    have e := rd_enc (z := noSumm) hl (decSumm_enc hok1.2 hlt1.2 h321 _)
    have hm9 := hlt1.2
    refine sa_start [] mixed ?_
    refine sa_take 0 rfl rfl (by kernel_rfl) .nil (pu_mv rfl rfl) ?_
    refine sa_take 2 rfl rfl (by kernel_rfl) .nil (pu_mv rfl rfl) ?_
    refine sa_take 3 rfl rfl (by kernel_rfl) .nil (pu_mv rfl rfl) ?_
    refine sa_take 4 rfl rfl (by kernel_rfl) .nil (pu_indexAddr rfl rfl rfl u_64 sz_74 (by omega) (idx_map hj1) rfl) ?_
    first
      | refine sa_take 5 rfl rfl (by kernel_rfl) .nil (pu_fieldAddr_ptr rfl rfl fo_74_3) ?_
      | refine sa_take 5 rfl rfl (by kernel_rfl) .nil (pu_fieldAddr_rp rfl rfl fo_74_3) ?_
      | refine sa_take 5 rfl rfl (by kernel_rfl) .nil (pu_fieldAddr_ref rfl rfl fo_74_3) ?_
    refine sa_take 6 rfl rfl (by kernel_rfl) .nil (pu_load_rpn rfl rfl ag_72 sz_72 (Nat.le_of_ble_eq_true rfl)) ?_
    refine sa_one 1 (by kernel_rfl) rfl ?_
    refine sl_callf rfl rfl cal_45 (pSumm_ok q (some l) c [] h1) ?_ ?_ ?_ (fun _ _ h => h.elim)
    · repeat constructor
    · repeat constructor
    rintro _ _ ⟨rfl, c3, h3, rfl⟩
    refine sl_nil ⟨.nil, ?_⟩
    rw [e] at h3 ⊢
    refine sa_one 7 (by kernel_rfl) rfl ?_
    refine sl_callf rfl rfl cal_47 (plain_ok ps[i].s (c3 :: []) (by have := hm9.2.1; omega)) ?_ ?_ ?_ (fun _ _ h => h.elim)
    · repeat constructor
    · repeat constructor
    rintro _ _ ⟨rfl, rfl⟩
    refine sl_nil ⟨.nil, ?_⟩
    refine sa_one 8 (by kernel_rfl) rfl ?_
    refine sl_callf rfl rfl cal_44 (hsumm_ok (normS ps[i].s) (normS ps[i].s) (c3 :: []) ⟨by have := hm9.1; show ps[i].s.alarms.length ≤ _; omega, by have := hm9.2.1; show (ps[i].s.mod.map normM).length ≤ _; rw [List.length_map]; omega⟩) ?_ ?_ ?_ (fun _ _ h => h.elim)
    · repeat constructor
    · repeat constructor
    rintro _ _ ⟨rfl, rfl⟩
    refine sl_nil ⟨.nil, ?_⟩
    refine sa_set 87 (.val (.bool true)) (congrArg (fun b => D.val (.bool b)) (decide_eq_true rfl)) ?_
    refine sa_one 9 (by kernel_rfl) rfl ?_
    refine sl_as rfl rfl rfl ?_
    refine sl_nil ⟨.nil, ?_⟩
    refine sa_done (by kernel_rfl) ?_
    refine sw_seq ?_
    refine sl_region ?_
    refine sl_mv rfl rfl rfl ?_
    refine sl_not rfl rfl rfl ?_
    refine sl_nil ?_
    refine sw_false rfl (rfl) ?_
    refine sw_skip ?_
    refine sl_region ?_
    refine sl_mv rfl rfl rfl ?_
    first
      | refine sl_inc rfl rfl rfl rfl (by omega) ?_
      | refine sl_add rfl rfl rfl rfl (by constructor <;> omega) ?_
      | refine sl_bin rfl rfl rfl rfl rfl ?_
    refine sl_as rfl rfl rfl ?_
    refine sl_nil ?_
    refine ⟨_, by omega, _, _, ?_, ?_, i + 1, _, c3, rfl, rfl, rfl, rfl, by omega, rfl, h3⟩
    · exact ⟨rfl, by repeat constructor⟩
    · repeat constructor
  have hj1 : i = ps.length := by have h9 : ¬ i < ps.length := (by simpa using hj); omega
  subst hj1
  rw [List.drop_length] at hl
  subst hl
  refine sw_exit ?_
  refine sw_seq ?_
  refine sl_region ?_
  refine sl_mv rfl rfl rfl ?_
  refine sl_callf rfl rfl cal_21 (done_ok q (some []) c [] h1) ?_ ?_ ?_ (fun _ _ h => h.elim)
  · repeat constructor
  · repeat constructor
  rintro _ _ ⟨rfl, rfl⟩
  refine sl_bin rfl rfl rfl rfl rfl ?_
  refine sl_as rfl rfl rfl ?_
  refine sl_nil ?_
  refine sw_ret ⟨rfl, _, _, res_one rfl rfl, ?_, ⟨rfl, rfl⟩⟩
  repeat constructor

end Go.Proofs.Ytioechdfghglhaa
