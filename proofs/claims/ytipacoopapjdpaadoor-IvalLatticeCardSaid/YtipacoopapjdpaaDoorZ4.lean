/- Merged: the program logic, plain laws and walks (each part's first row says what it is); no conditions of its own. -/
import Derived.Test.YtipacoopapjdpaaDoorZ2
import Derived.Test.YtipacoopapjdpaaDoorProg
import Derived.Test.YtipacoopapjdpaaDoorZ3

/- What the type table says: printed by a program of this session. -/
namespace Go.Proofs.YtipacoopapjdpaaDoor
open Go Go.RowKit SL

theorem ag_2 : aggOf Tryd.prog 2 = some false := by kernel_rfl
theorem ag_25 : aggOf Tryd.prog 25 = some true := by kernel_rfl
theorem ag_4 : aggOf Tryd.prog 4 = some false := by kernel_rfl
theorem bi_25 : buildInfo Tryd.prog 25 = some [(0, 1), (1, 1), (2, 1)] := by kernel_rfl
theorem cal_10 : callable Tryd.prog 10 = true := by kernel_rfl
theorem cal_11 : callable Tryd.prog 11 = true := by kernel_rfl
theorem cal_12 : callable Tryd.prog 12 = true := by kernel_rfl
theorem cal_13 : callable Tryd.prog 13 = true := by kernel_rfl
theorem cal_14 : callable Tryd.prog 14 = true := by kernel_rfl
theorem cal_15 : callable Tryd.prog 15 = true := by kernel_rfl
theorem cal_16 : callable Tryd.prog 16 = true := by kernel_rfl
theorem cal_17 : callable Tryd.prog 17 = true := by kernel_rfl
theorem cal_18 : callable Tryd.prog 18 = true := by kernel_rfl
theorem cal_19 : callable Tryd.prog 19 = true := by kernel_rfl
theorem cal_20 : callable Tryd.prog 20 = true := by kernel_rfl
theorem cal_21 : callable Tryd.prog 21 = true := by kernel_rfl
theorem cal_22 : callable Tryd.prog 22 = true := by kernel_rfl
theorem cal_23 : callable Tryd.prog 23 = true := by kernel_rfl
theorem cal_24 : callable Tryd.prog 24 = true := by kernel_rfl
theorem cal_25 : callable Tryd.prog 25 = true := by kernel_rfl
theorem cal_26 : callable Tryd.prog 26 = true := by kernel_rfl
theorem cal_27 : callable Tryd.prog 27 = true := by kernel_rfl
theorem cal_28 : callable Tryd.prog 28 = true := by kernel_rfl
theorem cal_29 : callable Tryd.prog 29 = true := by kernel_rfl
theorem cal_30 : callable Tryd.prog 30 = true := by kernel_rfl
theorem cal_8 : callable Tryd.prog 8 = true := by kernel_rfl
theorem cal_9 : callable Tryd.prog 9 = true := by kernel_rfl
theorem eg_25 : Tryd.prog.eqGuardType Tryd.prog.depth 25 = false := by kernel_rfl
theorem ek_25 : eqKs Tryd.prog 9 25 = some [.bool, .int .i64, .int .i64] := by kernel_rfl
theorem fi_25_0 : fieldInfo Tryd.prog 25 0 = some (false, 0, 1) := by kernel_rfl
theorem fo_25_0 : fieldOff Tryd.prog 25 0 = some 0 := by kernel_rfl
theorem fo_25_1 : fieldOff Tryd.prog 25 1 = some 1 := by kernel_rfl
theorem fo_25_2 : fieldOff Tryd.prog 25 2 = some 2 := by kernel_rfl
theorem mixed : Tryd.prog.follows .mixedOrders = true := by kernel_rfl
theorem sz_2 : szOf Tryd.prog 2 = some 1 := by kernel_rfl
theorem sz_25 : szOf Tryd.prog 25 = some 3 := by kernel_rfl
theorem u_22 : Tryd.prog.underlying 22 = some (.slice 25) := by kernel_rfl
theorem u_4 : Tryd.prog.underlying 4 = some .bool := by kernel_rfl
theorem u_9 : Tryd.prog.underlying 9 = some .string := by kernel_rfl
theorem zd_25 : zeroDs Tryd.prog 25 = some [.val (.bool false), .val (.int .i64 0), .val (.int .i64 0)] := by kernel_rfl
theorem zs_25 : (zeroOf Tryd.prog 25).isSome = true := by kernel_rfl
end Go.Proofs.YtipacoopapjdpaaDoor

/- Walks: printed by a program of this session out of its script CovA. -/
namespace Go.Proofs.YtipacoopapjdpaaDoor
set_option linter.unusedVariables false
set_option linter.unusedSimpArgs false
set_option maxRecDepth 4000
set_option maxHeartbeats 4000000
open Go Go.RowKit SL


theorem cov_ivl (n : Nat) : Covers Tryd.prog n 25 fun xs => ∃ i : Ivl, xs = (ivlV i).cells ∧ IvlOk i := by
  cases n with
  | zero => exact covers_zero
  | succ n =>
    refine (covers_struct Tryd.underlying25 (Ss := [fun xs => ∃ a : Bool, xs = (boolV a).cells ∧ True, fun xs => ∃ a : Int, xs = (i64V a).cells ∧ isI64 a, fun xs => ∃ a : Int, xs = (i64V a).cells ∧ isI64 a])
      ⟨rfl, cov_bool Tryd.underlying4 n, by kernel_rfl, cov_i64 Tryd.underlying2 n, by kernel_rfl, cov_i64 Tryd.underlying2 n, show (_ : Nat) = _ by kernel_rfl⟩).mono fun xs h => ?_
    obtain ⟨_, _, rfl, ⟨b, rfl, _⟩, _, _, rfl, ⟨lo, rfl, h1⟩, _, _, rfl, ⟨hi, rfl, h2⟩, rfl⟩ := h
    exact ⟨⟨b, lo, hi⟩, rfl, h1, h2⟩

theorem cov_ivls {t : TypeId} (ht : Tryd.prog.underlying t = some (.slice 25)) (he : (0 : Nat) = 0) (hc : Tryd.prog.cellsOf 25 = 3) (n : Nat) :
    Covers Tryd.prog n t fun xs => ∃ al : List Ivl, xs = [.list (al.map ivlV)] ∧ (∀ a ∈ al, IvlOk a) ∧ al.length ≤ maxLen :=
  cov_list ivlV .agg (fun _ => rfl) ht hc (by decide) cov_ivl n

end Go.Proofs.YtipacoopapjdpaaDoor

/- Walks: printed by a program of this session out of its script IvalA. -/
namespace Go.Proofs.YtipacoopapjdpaaDoor
set_option linter.unusedVariables false
set_option linter.unusedSimpArgs false
set_option maxRecDepth 4000
set_option maxHeartbeats 4000000
open Go Go.RowKit SL


theorem plain_ok (a : Ivl) (σ : List Chunk) : FSpec Tryd.prog 27 [.val (ivlV a)] σ (fun d σ' => d = .val (ivlV (nrm a)) ∧ σ' = σ) := by
  refine spec_of_sw Tryd.func27 rfl ?_
  refine sw_seq ?_
  refine sl_region ?_
  refine sl_bx_imm rfl rfl rfl rfl rfl ?_
  refine sl_alloc rfl rfl zd_25 (fun b2 => ?_)
  refine sl_nil ?_
  refine sw_seq ?_
  refine sw_seq ?_
  refine sl_region ?_
  first
    | refine sl_fieldAddr_ptr rfl rfl rfl fo_25_0 ?_
    | refine sl_fieldAddr_rp rfl rfl rfl fo_25_0 ?_
    | refine sl_fieldAddr_ref rfl rfl rfl fo_25_0 ?_
  first
    | refine sl_load_rp1 rfl rfl rfl ag_4 rfl ?_
    | refine sl_load_blk1 rfl rfl rfl ag_4 (by repeat constructor) rfl ?_
  refine sl_not rfl rfl rfl ?_
  refine sl_mv rfl rfl rfl ?_
  refine sl_case_at 6 rfl (fun h1 => ?_) (fun h1 => ?_)
  · refine sl_guard_n rfl rfl rfl h1 ?_
    refine sl_guard_n rfl rfl rfl h1 ?_
    refine sl_guard_n rfl rfl rfl h1 ?_
    refine sl_guard_n rfl rfl rfl h1 ?_
    refine sl_guard_n rfl rfl rfl h1 ?_
    refine sl_pk_t rfl rfl rfl h1 rfl ?_
    refine sl_nil ?_
    refine sw_true rfl (rfl) ?_
    refine sw_seq ?_
    refine sl_region ?_
    refine sl_bd rfl rfl .nil bi_25 zd_25 rfl ?_
    refine sl_stp rfl rfl rfl rfl sz_25 rfl rfl rfl (by repeat constructor) (Nat.le_of_ble_eq_true rfl) ?_
    refine sl_nil ?_
    refine sw_ret ⟨rfl, _, _, ResD.weak (res_celln rfl rfl ag_25 sz_25 (by repeat constructor) (Nat.le_of_ble_eq_true rfl)) (Weak.toV rfl ), ?_, by rw [nrm_no (fun h => by rw [h.1] at h1; cases h1)]; exact ⟨rfl, rfl⟩⟩
    repeat constructor
  refine sl_guard_y rfl rfl rfl h1 ?_
  first
    | refine sl_fieldAddr_ptr rfl rfl rfl fo_25_1 ?_
    | refine sl_fieldAddr_rp rfl rfl rfl fo_25_1 ?_
    | refine sl_fieldAddr_ref rfl rfl rfl fo_25_1 ?_
  refine sl_guard_y rfl rfl rfl h1 ?_
  first
    | refine sl_load_rp1 rfl rfl rfl ag_2 rfl ?_
    | refine sl_load_blk1 rfl rfl rfl ag_2 (by repeat constructor) rfl ?_
  refine sl_guard_y rfl rfl rfl h1 ?_
  first
    | refine sl_fieldAddr_ptr rfl rfl rfl fo_25_2 ?_
    | refine sl_fieldAddr_rp rfl rfl rfl fo_25_2 ?_
    | refine sl_fieldAddr_ref rfl rfl rfl fo_25_2 ?_
  refine sl_guard_y rfl rfl rfl h1 ?_
  first
    | refine sl_load_rp1 rfl rfl rfl ag_2 rfl ?_
    | refine sl_load_blk1 rfl rfl rfl ag_2 (by repeat constructor) rfl ?_
  refine sl_guard_y rfl rfl rfl h1 ?_
  refine sl_bin rfl rfl rfl rfl rfl ?_
  refine sl_pk_f rfl rfl rfl h1 rfl ?_
  refine sl_nil ?_
  refine sw_cond rfl (fun h2 => ?_) (fun h2 => ?_)
  · refine sw_seq ?_
    refine sl_region ?_
    refine sl_bd rfl rfl .nil bi_25 zd_25 rfl ?_
    refine sl_stp rfl rfl rfl rfl sz_25 rfl rfl rfl (by repeat constructor) (Nat.le_of_ble_eq_true rfl) ?_
    refine sl_nil ?_
    refine sw_ret ⟨rfl, _, _, ResD.weak (res_celln rfl rfl ag_25 sz_25 (by repeat constructor) (Nat.le_of_ble_eq_true rfl)) (Weak.toV rfl ), ?_, by rw [nrm_no (fun h => by have := of_decide_eq_true h2; omega)]; exact ⟨rfl, rfl⟩⟩
    repeat constructor
  refine sw_skip ?_
  refine sw_seq ?_
  refine sl_region ?_
  first
    | refine sl_load_rpn rfl rfl rfl ag_25 sz_25 (Nat.le_of_ble_eq_true rfl) ?_
    | refine sl_load_blkn rfl rfl rfl ag_25 sz_25 (by repeat constructor) (Nat.le_of_ble_eq_true rfl) ?_
    | refine sl_load_ref rfl rfl rfl ag_25 sz_25 (Nat.le_of_ble_eq_true rfl) ?_
  refine sl_stp rfl rfl rfl rfl sz_25 rfl rfl rfl (by repeat constructor) (Nat.le_of_ble_eq_true rfl) ?_
  refine sl_nil ?_
  refine sw_ret ⟨rfl, _, _, ResD.weak (res_celln rfl rfl ag_25 sz_25 (by repeat constructor) (Nat.le_of_ble_eq_true rfl)) (Weak.toV rfl ), ?_, by rw [show nrm a = a from if_pos ⟨by simpa using h1, by have := of_decide_eq_false h2; omega⟩]; exact ⟨rfl, rfl⟩⟩
  repeat constructor

theorem norm_ok (a : Ivl) (σ : List Chunk) : FSpec Tryd.prog 29 [.val (ivlV a)] σ (fun d σ' => d = .val (ivlV (nrm a)) ∧ σ' = σ) := by
  refine spec_of_sw Tryd.func29 rfl ?_
  refine sw_seq ?_
  refine sl_region ?_
  refine sl_bx_imm rfl rfl rfl rfl rfl ?_
  refine sl_alloc rfl rfl zd_25 (fun b2 => ?_)
  refine sl_nil ?_
  refine sw_seq ?_
  refine sw_seq ?_
  refine sl_region ?_
  first
    | refine sl_fieldAddr_ptr rfl rfl rfl fo_25_0 ?_
    | refine sl_fieldAddr_rp rfl rfl rfl fo_25_0 ?_
    | refine sl_fieldAddr_ref rfl rfl rfl fo_25_0 ?_
  first
    | refine sl_load_rp1 rfl rfl rfl ag_4 rfl ?_
    | refine sl_load_blk1 rfl rfl rfl ag_4 (by repeat constructor) rfl ?_
  refine sl_not rfl rfl rfl ?_
  refine sl_mv rfl rfl rfl ?_
  refine sl_case_at 6 rfl (fun h1 => ?_) (fun h1 => ?_)
  · refine sl_guard_n rfl rfl rfl h1 ?_
    refine sl_guard_n rfl rfl rfl h1 ?_
    refine sl_guard_n rfl rfl rfl h1 ?_
    refine sl_guard_n rfl rfl rfl h1 ?_
    refine sl_guard_n rfl rfl rfl h1 ?_
    refine sl_pk_t rfl rfl rfl h1 rfl ?_
    refine sl_nil ?_
    refine sw_true rfl (rfl) ?_
    refine sw_seq ?_
    refine sl_region ?_
    refine sl_bd rfl rfl .nil bi_25 zd_25 rfl ?_
    refine sl_stp rfl rfl rfl rfl sz_25 rfl rfl rfl (by repeat constructor) (Nat.le_of_ble_eq_true rfl) ?_
    refine sl_nil ?_
    refine sw_ret ⟨rfl, _, _, ResD.weak (res_celln rfl rfl ag_25 sz_25 (by repeat constructor) (Nat.le_of_ble_eq_true rfl)) (Weak.toV rfl ), ?_, by rw [nrm_no (fun h => by rw [h.1] at h1; cases h1)]; exact ⟨rfl, rfl⟩⟩
    repeat constructor
  refine sl_guard_y rfl rfl rfl h1 ?_
  first
    | refine sl_fieldAddr_ptr rfl rfl rfl fo_25_1 ?_
    | refine sl_fieldAddr_rp rfl rfl rfl fo_25_1 ?_
    | refine sl_fieldAddr_ref rfl rfl rfl fo_25_1 ?_
  refine sl_guard_y rfl rfl rfl h1 ?_
  first
    | refine sl_load_rp1 rfl rfl rfl ag_2 rfl ?_
    | refine sl_load_blk1 rfl rfl rfl ag_2 (by repeat constructor) rfl ?_
  refine sl_guard_y rfl rfl rfl h1 ?_
  first
    | refine sl_fieldAddr_ptr rfl rfl rfl fo_25_2 ?_
    | refine sl_fieldAddr_rp rfl rfl rfl fo_25_2 ?_
    | refine sl_fieldAddr_ref rfl rfl rfl fo_25_2 ?_
  refine sl_guard_y rfl rfl rfl h1 ?_
  first
    | refine sl_load_rp1 rfl rfl rfl ag_2 rfl ?_
    | refine sl_load_blk1 rfl rfl rfl ag_2 (by repeat constructor) rfl ?_
  refine sl_guard_y rfl rfl rfl h1 ?_
  refine sl_bin rfl rfl rfl rfl rfl ?_
  refine sl_pk_f rfl rfl rfl h1 rfl ?_
  refine sl_nil ?_
  refine sw_cond rfl (fun h2 => ?_) (fun h2 => ?_)
  · refine sw_seq ?_
    refine sl_region ?_
    refine sl_bd rfl rfl .nil bi_25 zd_25 rfl ?_
    refine sl_stp rfl rfl rfl rfl sz_25 rfl rfl rfl (by repeat constructor) (Nat.le_of_ble_eq_true rfl) ?_
    refine sl_nil ?_
    refine sw_ret ⟨rfl, _, _, ResD.weak (res_celln rfl rfl ag_25 sz_25 (by repeat constructor) (Nat.le_of_ble_eq_true rfl)) (Weak.toV rfl ), ?_, by rw [nrm_no (fun h => by have := of_decide_eq_true h2; omega)]; exact ⟨rfl, rfl⟩⟩
    repeat constructor
  refine sw_skip ?_
  refine sw_seq ?_
  refine sl_region ?_
  first
    | refine sl_load_rpn rfl rfl rfl ag_25 sz_25 (Nat.le_of_ble_eq_true rfl) ?_
    | refine sl_load_blkn rfl rfl rfl ag_25 sz_25 (by repeat constructor) (Nat.le_of_ble_eq_true rfl) ?_
    | refine sl_load_ref rfl rfl rfl ag_25 sz_25 (Nat.le_of_ble_eq_true rfl) ?_
  refine sl_stp rfl rfl rfl rfl sz_25 rfl rfl rfl (by repeat constructor) (Nat.le_of_ble_eq_true rfl) ?_
  refine sl_nil ?_
  refine sw_ret ⟨rfl, _, _, ResD.weak (res_celln rfl rfl ag_25 sz_25 (by repeat constructor) (Nat.le_of_ble_eq_true rfl)) (Weak.toV rfl ), ?_, by rw [show nrm a = a from if_pos ⟨by simpa using h1, by have := of_decide_eq_false h2; omega⟩]; exact ⟨rfl, rfl⟩⟩
  repeat constructor

theorem iempty_ok (σ : List Chunk) : FSpec Tryd.prog 9 [] σ (fun d σ' => d = .val (ivlV noIval) ∧ σ' = σ) := by
  refine spec_of_sw Tryd.func9 rfl ?_
  refine sw_seq ?_
  refine sl_region ?_
  refine sl_alloc rfl rfl zd_25 (fun b0 => ?_)
  refine sl_nil ?_
  refine sw_seq ?_
  refine sl_region ?_
  refine sl_bd rfl rfl .nil bi_25 zd_25 rfl ?_
  refine sl_stp rfl rfl rfl rfl sz_25 rfl rfl rfl (by repeat constructor) (Nat.le_of_ble_eq_true rfl) ?_
  refine sl_nil ?_
  refine sw_ret ⟨rfl, _, _, ResD.weak (res_celln rfl rfl ag_25 sz_25 (by repeat constructor) (Nat.le_of_ble_eq_true rfl)) (Weak.toV rfl ), ?_, ⟨rfl, rfl⟩⟩
  repeat constructor

theorem itop_ok (σ : List Chunk) : FSpec Tryd.prog 15 [] σ (fun d σ' => d = .val (ivlV topI) ∧ σ' = σ) := by
  refine spec_of_sw Tryd.func15 rfl ?_
  refine sw_seq ?_
  refine sl_region ?_
  refine sl_alloc rfl rfl zd_25 (fun b0 => ?_)
  refine sl_nil ?_
  refine sw_seq ?_
  refine sl_region ?_
  refine sl_bd rfl rfl (.cons rfl (.cons rfl (.cons rfl .nil))) bi_25 zd_25 rfl ?_
  refine sl_stp rfl rfl rfl rfl sz_25 rfl rfl rfl (by repeat constructor) (Nat.le_of_ble_eq_true rfl) ?_
  refine sl_nil ?_
  refine sw_ret ⟨rfl, _, _, ResD.weak (res_celln rfl rfl ag_25 sz_25 (by repeat constructor) (Nat.le_of_ble_eq_true rfl)) (Weak.toV rfl ), ?_, ⟨rfl, rfl⟩⟩
  repeat constructor

theorem iof_ok (lo hi : Int) (σ : List Chunk) : FSpec Tryd.prog 13 [.val (.int .i64 lo), .val (.int .i64 hi)] σ (fun d σ' => d = .val (ivlV (ofI lo hi)) ∧ σ' = σ) := by
  refine spec_of_sw Tryd.func13 rfl ?_
  refine sw_seq ?_
  refine sl_region ?_
  refine sl_alloc rfl rfl zd_25 (fun b4 => ?_)
  refine sl_nil ?_
  refine sw_seq ?_
  refine sl_region ?_
  refine sl_mv rfl rfl rfl ?_
  refine sl_mv rfl rfl rfl ?_
  refine sl_bd rfl rfl (.cons rfl (.cons rfl (.cons rfl .nil))) bi_25 zd_25 rfl ?_
  refine sl_callp rfl rfl cal_27 (plain_ok ⟨true, lo, hi⟩) ?_ ?_
  · repeat constructor
  refine sl_stp rfl rfl rfl rfl sz_25 rfl rfl rfl (by repeat constructor) (Nat.le_of_ble_eq_true rfl) ?_
  refine sl_nil ?_
  refine sw_ret ⟨rfl, _, _, ResD.weak (res_celln rfl rfl ag_25 sz_25 (by repeat constructor) (Nat.le_of_ble_eq_true rfl)) (Weak.toV rfl ), ?_, ⟨rfl, rfl⟩⟩
  repeat constructor

theorem rof_ok (lo hi : Int) (σ : List Chunk) : FSpec Tryd.prog 25 [.val (.int .i64 lo), .val (.int .i64 hi)] σ (fun d σ' => d = .val (ivlV (ofI lo hi)) ∧ σ' = σ) := by
  refine spec_of_sw Tryd.func25 rfl ?_
  refine sw_seq ?_
  refine sl_region ?_
  refine sl_alloc rfl rfl zd_25 (fun b4 => ?_)
  refine sl_nil ?_
  refine sw_seq ?_
  refine sl_region ?_
  refine sl_mv rfl rfl rfl ?_
  refine sl_mv rfl rfl rfl ?_
  refine sl_bd rfl rfl (.cons rfl (.cons rfl (.cons rfl .nil))) bi_25 zd_25 rfl ?_
  refine sl_callp rfl rfl cal_29 (norm_ok ⟨true, lo, hi⟩) ?_ ?_
  · repeat constructor
  refine sl_stp rfl rfl rfl rfl sz_25 rfl rfl rfl (by repeat constructor) (Nat.le_of_ble_eq_true rfl) ?_
  refine sl_nil ?_
  refine sw_ret ⟨rfl, _, _, ResD.weak (res_celln rfl rfl ag_25 sz_25 (by repeat constructor) (Nat.le_of_ble_eq_true rfl)) (Weak.toV rfl ), ?_, ⟨rfl, rfl⟩⟩
  repeat constructor

theorem rtop_ok (σ : List Chunk) : FSpec Tryd.prog 26 [] σ (fun d σ' => d = .val (ivlV topI) ∧ σ' = σ) := by
  refine spec_of_sw Tryd.func26 rfl ?_
  refine sw_seq ?_
  refine sl_region ?_
  refine sl_alloc rfl rfl zd_25 (fun b0 => ?_)
  refine sl_nil ?_
  refine sw_seq ?_
  refine sl_region ?_
  refine sl_callp rfl rfl cal_25 (rof_ok (-9223372036854775808) 9223372036854775807) ?_ ?_
  · repeat constructor
  refine sl_stp rfl rfl rfl rfl sz_25 rfl rfl rfl (by repeat constructor) (Nat.le_of_ble_eq_true rfl) ?_
  refine sl_nil ?_
  refine sw_ret ⟨rfl, _, _, ResD.weak (res_celln rfl rfl ag_25 sz_25 (by repeat constructor) (Nat.le_of_ble_eq_true rfl)) (Weak.toV rfl ), ?_, ⟨rfl, rfl⟩⟩
  repeat constructor

theorem iconst_ok (n : Int) (σ : List Chunk) : FSpec Tryd.prog 16 [.val (.int .i64 n)] σ (fun d σ' => d = .val (ivlV (ofI n n)) ∧ σ' = σ) := by
  refine spec_of_sw Tryd.func16 rfl ?_
  refine sw_seq ?_
  refine sl_region ?_
  refine sl_alloc rfl rfl zd_25 (fun b2 => ?_)
  refine sl_nil ?_
  refine sw_seq ?_
  refine sl_region ?_
  refine sl_mv rfl rfl rfl ?_
  refine sl_mv rfl rfl rfl ?_
  refine sl_callp rfl rfl cal_13 (iof_ok n n) ?_ ?_
  · repeat constructor
  refine sl_stp rfl rfl rfl rfl sz_25 rfl rfl rfl (by repeat constructor) (Nat.le_of_ble_eq_true rfl) ?_
  refine sl_nil ?_
  refine sw_ret ⟨rfl, _, _, ResD.weak (res_celln rfl rfl ag_25 sz_25 (by repeat constructor) (Nat.le_of_ble_eq_true rfl)) (Weak.toV rfl ), ?_, ⟨rfl, rfl⟩⟩
  repeat constructor

theorem ihas_ok (a : Ivl) (n : Int) (σ : List Chunk) : FSpec Tryd.prog 14 [.val (ivlV a), .val (.int .i64 n)] σ (fun d σ' => d = .val (.bool (hasI a n)) ∧ σ' = σ) := by
  refine spec_of_sw Tryd.func14 rfl ?_
  refine sw_seq ?_
  refine sl_region ?_
  refine sl_bx_imm rfl rfl rfl rfl rfl ?_
  refine sl_as rfl rfl rfl ?_
  refine sl_nil ?_
  refine sw_seq ?_
  refine sl_region ?_
  first
    | refine sl_fieldAddr_ptr rfl rfl rfl fo_25_0 ?_
    | refine sl_fieldAddr_rp rfl rfl rfl fo_25_0 ?_
    | refine sl_fieldAddr_ref rfl rfl rfl fo_25_0 ?_
  first
    | refine sl_load_rp1 rfl rfl rfl ag_4 rfl ?_
    | refine sl_load_blk1 rfl rfl rfl ag_4 (by repeat constructor) rfl ?_
  refine sl_mv rfl rfl rfl ?_
  refine sl_case_at 7 rfl (fun h1 => ?_) (fun h1 => ?_)
  · refine sl_guard_y rfl rfl rfl h1 ?_
    refine sl_mv rfl rfl rfl ?_
    refine sl_guard_y rfl rfl rfl h1 ?_
    first
      | refine sl_fieldAddr_ptr rfl rfl rfl fo_25_1 ?_
      | refine sl_fieldAddr_rp rfl rfl rfl fo_25_1 ?_
      | refine sl_fieldAddr_ref rfl rfl rfl fo_25_1 ?_
    refine sl_guard_y rfl rfl rfl h1 ?_
    first
      | refine sl_load_rp1 rfl rfl rfl ag_2 rfl ?_
      | refine sl_load_blk1 rfl rfl rfl ag_2 (by repeat constructor) rfl ?_
    refine sl_guard_y rfl rfl rfl h1 ?_
    refine sl_bin rfl rfl rfl rfl rfl ?_
    refine sl_pk_t rfl rfl rfl h1 rfl ?_
    refine sl_mv rfl rfl rfl ?_
    refine sl_case_at 13 rfl (fun h2 => ?_) (fun h2 => ?_)
    · refine sl_guard_y rfl rfl rfl h2 ?_
      refine sl_mv rfl rfl rfl ?_
      refine sl_guard_y rfl rfl rfl h2 ?_
      first
        | refine sl_fieldAddr_ptr rfl rfl rfl fo_25_2 ?_
        | refine sl_fieldAddr_rp rfl rfl rfl fo_25_2 ?_
        | refine sl_fieldAddr_ref rfl rfl rfl fo_25_2 ?_
      refine sl_guard_y rfl rfl rfl h2 ?_
      first
        | refine sl_load_rp1 rfl rfl rfl ag_2 rfl ?_
        | refine sl_load_blk1 rfl rfl rfl ag_2 (by repeat constructor) rfl ?_
      refine sl_guard_y rfl rfl rfl h2 ?_
      refine sl_bin rfl rfl rfl rfl rfl ?_
      refine sl_pk_t rfl rfl rfl h2 rfl ?_
      refine sl_as rfl rfl rfl ?_
      refine sl_nil ?_
      refine sw_ret ⟨rfl, _, _, res_one rfl rfl, ?_, ⟨congrArg (fun b => D.val (.bool b)) (by have h1' : a.some = true := h1; unfold hasI; rw [h1', decide_eq_true (of_decide_eq_true h2 : n ≥ a.lo)]; rfl), rfl⟩⟩
      repeat constructor
    refine sl_guard_n rfl rfl rfl h2 ?_
    refine sl_guard_n rfl rfl rfl h2 ?_
    refine sl_guard_n rfl rfl rfl h2 ?_
    refine sl_guard_n rfl rfl rfl h2 ?_
    refine sl_pk_f rfl rfl rfl h2 rfl ?_
    refine sl_as rfl rfl rfl ?_
    refine sl_nil ?_
    refine sw_ret ⟨rfl, _, _, res_one rfl rfl, ?_, ⟨congrArg (fun b => D.val (.bool b)) (by have h1' : a.some = true := h1; unfold hasI; rw [h1', decide_eq_false (p := a.lo ≤ n) (of_decide_eq_false h2)]; rfl), rfl⟩⟩
    repeat constructor
  refine sl_guard_n rfl rfl rfl h1 ?_
  refine sl_guard_n rfl rfl rfl h1 ?_
  refine sl_guard_n rfl rfl rfl h1 ?_
  refine sl_guard_n rfl rfl rfl h1 ?_
  refine sl_pk_f rfl rfl rfl h1 rfl ?_
  refine sl_mv rfl rfl rfl ?_
  refine sl_guard_n rfl rfl rfl (rfl) ?_
  refine sl_guard_n rfl rfl rfl (rfl) ?_
  refine sl_guard_n rfl rfl rfl (rfl) ?_
  refine sl_guard_n rfl rfl rfl (rfl) ?_
  refine sl_pk_f rfl rfl rfl (rfl) rfl ?_
  refine sl_as rfl rfl rfl ?_
  refine sl_nil ?_
  refine sw_ret ⟨rfl, _, _, res_one rfl rfl, ?_, ⟨congrArg (fun b => D.val (.bool b)) (by have h1' : a.some = false := h1; unfold hasI; rw [h1']; rfl), rfl⟩⟩
  repeat constructor

theorem rhas_ok (a : Ivl) (n : Int) (σ : List Chunk) : FSpec Tryd.prog 23 [.val (ivlV a), .val (.int .i64 n)] σ (fun d σ' => d = .val (.bool (hasI a n)) ∧ σ' = σ) := by
  refine spec_of_sw Tryd.func23 rfl ?_
  refine sw_seq ?_
  refine sl_region ?_
  refine sl_bx_imm rfl rfl rfl rfl rfl ?_
  refine sl_as rfl rfl rfl ?_
  refine sl_nil ?_
  refine sw_seq ?_
  refine sl_region ?_
  first
    | refine sl_fieldAddr_ptr rfl rfl rfl fo_25_0 ?_
    | refine sl_fieldAddr_rp rfl rfl rfl fo_25_0 ?_
    | refine sl_fieldAddr_ref rfl rfl rfl fo_25_0 ?_
  first
    | refine sl_load_rp1 rfl rfl rfl ag_4 rfl ?_
    | refine sl_load_blk1 rfl rfl rfl ag_4 (by repeat constructor) rfl ?_
  refine sl_mv rfl rfl rfl ?_
  refine sl_case_at 7 rfl (fun h1 => ?_) (fun h1 => ?_)
  · refine sl_guard_y rfl rfl rfl h1 ?_
    first
      | refine sl_fieldAddr_ptr rfl rfl rfl fo_25_1 ?_
      | refine sl_fieldAddr_rp rfl rfl rfl fo_25_1 ?_
      | refine sl_fieldAddr_ref rfl rfl rfl fo_25_1 ?_
    refine sl_guard_y rfl rfl rfl h1 ?_
    first
      | refine sl_load_rp1 rfl rfl rfl ag_2 rfl ?_
      | refine sl_load_blk1 rfl rfl rfl ag_2 (by repeat constructor) rfl ?_
    refine sl_guard_y rfl rfl rfl h1 ?_
    refine sl_mv rfl rfl rfl ?_
    refine sl_guard_y rfl rfl rfl h1 ?_
    refine sl_bin rfl rfl rfl rfl rfl ?_
    refine sl_pk_t rfl rfl rfl h1 rfl ?_
    refine sl_mv rfl rfl rfl ?_
    refine sl_case_at 13 rfl (fun h2 => ?_) (fun h2 => ?_)
    · refine sl_guard_y rfl rfl rfl h2 ?_
      refine sl_mv rfl rfl rfl ?_
      refine sl_guard_y rfl rfl rfl h2 ?_
      first
        | refine sl_fieldAddr_ptr rfl rfl rfl fo_25_2 ?_
        | refine sl_fieldAddr_rp rfl rfl rfl fo_25_2 ?_
        | refine sl_fieldAddr_ref rfl rfl rfl fo_25_2 ?_
      refine sl_guard_y rfl rfl rfl h2 ?_
      first
        | refine sl_load_rp1 rfl rfl rfl ag_2 rfl ?_
        | refine sl_load_blk1 rfl rfl rfl ag_2 (by repeat constructor) rfl ?_
      refine sl_guard_y rfl rfl rfl h2 ?_
      refine sl_bin rfl rfl rfl rfl rfl ?_
      refine sl_pk_t rfl rfl rfl h2 rfl ?_
      refine sl_as rfl rfl rfl ?_
      refine sl_nil ?_
      refine sw_ret ⟨rfl, _, _, res_one rfl rfl, ?_, ⟨congrArg (fun b => D.val (.bool b)) (by have h1' : a.some = true := h1; unfold hasI; rw [h1', decide_eq_true (of_decide_eq_true h2 : a.lo ≤ n)]; rfl), rfl⟩⟩
      repeat constructor
    refine sl_guard_n rfl rfl rfl h2 ?_
    refine sl_guard_n rfl rfl rfl h2 ?_
    refine sl_guard_n rfl rfl rfl h2 ?_
    refine sl_guard_n rfl rfl rfl h2 ?_
    refine sl_pk_f rfl rfl rfl h2 rfl ?_
    refine sl_as rfl rfl rfl ?_
    refine sl_nil ?_
    refine sw_ret ⟨rfl, _, _, res_one rfl rfl, ?_, ⟨congrArg (fun b => D.val (.bool b)) (by have h1' : a.some = true := h1; unfold hasI; rw [h1', decide_eq_false (p := a.lo ≤ n) (of_decide_eq_false h2)]; rfl), rfl⟩⟩
    repeat constructor
  refine sl_guard_n rfl rfl rfl h1 ?_
  refine sl_guard_n rfl rfl rfl h1 ?_
  refine sl_guard_n rfl rfl rfl h1 ?_
  refine sl_guard_n rfl rfl rfl h1 ?_
  refine sl_pk_f rfl rfl rfl h1 rfl ?_
  refine sl_mv rfl rfl rfl ?_
  refine sl_guard_n rfl rfl rfl (rfl) ?_
  refine sl_guard_n rfl rfl rfl (rfl) ?_
  refine sl_guard_n rfl rfl rfl (rfl) ?_
  refine sl_guard_n rfl rfl rfl (rfl) ?_
  refine sl_pk_f rfl rfl rfl (rfl) rfl ?_
  refine sl_as rfl rfl rfl ?_
  refine sl_nil ?_
  refine sw_ret ⟨rfl, _, _, res_one rfl rfl, ?_, ⟨congrArg (fun b => D.val (.bool b)) (by have h1' : a.some = false := h1; unfold hasI; rw [h1']; rfl), rfl⟩⟩
  repeat constructor

end Go.Proofs.YtipacoopapjdpaaDoor

/- Walks: printed by a program of this session out of its script IvalB. -/
namespace Go.Proofs.YtipacoopapjdpaaDoor
set_option linter.unusedVariables false
set_option linter.unusedSimpArgs false
set_option maxRecDepth 4000
set_option maxHeartbeats 4000000
open Go Go.RowKit SL


theorem joinL_snoc {l : List Ivl} {k : Nat} (hk : k < l.length) : joinL (l.take (k + 1)) = jn (joinL (l.take k)) (nrm l[k]) := by
  rw [take_snoc hk]; unfold joinL; rw [List.foldl_append]; rfl
theorem meetL_snoc {l : List Ivl} {k : Nat} (hk : k < l.length) : meetL (l.take (k + 1)) = mt (meetL (l.take k)) (nrm l[k]) := by
  rw [take_snoc hk]; unfold meetL; rw [List.foldl_append]; rfl
theorem meetL_stop {l : List Ivl} {k : Nat} (hk : k < l.length) (h : mt (meetL (l.take k)) (nrm l[k]) = noIval) : meetL l = noIval := by
  rw [← meetL_snoc hk] at h
  have e : l = l.take (k + 1) ++ l.drop (k + 1) := (List.take_append_drop _ _).symm
  rw [e]
  unfold meetL at h ⊢
  rw [List.foldl_append, h, meetL_no]


theorem ijoin_ok (l : List Ivl) (hl : l.length ≤ 1000) (σ : List Chunk) : FSpec Tryd.prog 11 [.val (.list (l.map ivlV))] σ (fun d σ' => d = .val (ivlV (joinL l)) ∧ σ' = σ) := by
  refine spec_of_sw Tryd.func11 rfl ?_
  refine sw_seq ?_
  refine sl_region ?_
  refine sl_alloc rfl rfl zd_25 (fun b2 => ?_)
  refine sl_nil ?_
  refine sw_seq ?_
  refine sl_region ?_
  refine sl_alloc rfl rfl zd_25 (fun b3 => ?_)
  refine sl_nil ?_
  refine sw_seq ?_
  refine sw_seq ?_
  refine sl_region ?_
  refine sl_mv rfl rfl rfl ?_
  first
    | refine sl_len rfl rfl rfl ⟨_, u_22⟩ ?_
    | refine sl_len_sl rfl rfl rfl ⟨_, u_22⟩ ?_
    | refine sl_len_w _ rfl rfl rfl ⟨_, u_22⟩ ?_
  refine sl_mv rfl rfl rfl ?_
  refine sl_nil ?_
  refine sw_block ?_
  refine sw_loopw (fun nX sX δX σX => ∃ (k : Nat) (acc : Ivl), (l.length - k) = nX ∧ sX = ⟨37, (.cons 2 (.ptr b2 0) (.cons 3 (.ptr b3 0) (.cons 6 (.val (.list (l.map ivlV))) (.cons 7 (.val (.int .i64 (l.map ivlV).length)) (.cons 8 (.val (.int .i64 (k : Int))) .nil)))))⟩ ∧ δX = [] ∧ σX = .blk b3 (rowOf (ivlV acc)) :: .blk b2 (rowOf (ivlV noIval)) :: σ ∧ (k ≤ l.length) ∧ (acc = joinL (l.take k))) ?_ ?_
  · refine ⟨_, _, _, ?_, ?_, 0, noIval, rfl, rfl, rfl, rfl, (Nat.zero_le _), (rfl)⟩
    · exact ⟨rfl, by repeat constructor⟩
    · repeat constructor
  rintro nX sX δX σX ⟨k, acc, rfl, rfl, rfl, rfl, hk0, hacc⟩
  refine sw_seq ?_
  refine sl_region ?_
  refine sl_bin rfl rfl rfl rfl rfl ?_
  refine sl_nil ?_
  refine sw_seq ?_
  refine sw_cond rfl (fun hk => ?_) (fun hk => ?_)
  · have hk : k < l.length := by simpa using hk
    refine sw_skip ?_
    refine sw_seq ?_
    refine sw_block ?_
    refine sw_seq ?_
    refine sl_region ?_
    refine sl_indexAddr' rfl rfl rfl rfl u_22 sz_25 (by omega) (idx_map hk) rfl ?_
    first
      | refine sl_load_rpn rfl rfl rfl ag_25 sz_25 (Nat.le_of_ble_eq_true rfl) ?_
      | refine sl_load_blkn rfl rfl rfl ag_25 sz_25 (by repeat constructor) (Nat.le_of_ble_eq_true rfl) ?_
      | refine sl_load_ref rfl rfl rfl ag_25 sz_25 (Nat.le_of_ble_eq_true rfl) ?_
    refine sl_alloc rfl rfl zd_25 (fun b5 => ?_)
    refine sl_stp rfl rfl rfl rfl sz_25 rfl rfl rfl (by repeat constructor) (Nat.le_of_ble_eq_true rfl) ?_
    refine sl_nil ?_
    refine sw_seq ?_
    refine sl_region ?_
    first
      | refine sl_load_rpn rfl rfl rfl ag_25 sz_25 (Nat.le_of_ble_eq_true rfl) ?_
      | refine sl_load_blkn rfl rfl rfl ag_25 sz_25 (by repeat constructor) (Nat.le_of_ble_eq_true rfl) ?_
      | refine sl_load_ref rfl rfl rfl ag_25 sz_25 (Nat.le_of_ble_eq_true rfl) ?_
    refine sl_callp rfl rfl cal_27 (plain_ok l[k]) ?_ ?_
    · repeat constructor
    refine sl_stp rfl rfl rfl rfl sz_25 rfl rfl rfl (by repeat constructor) (Nat.le_of_ble_eq_true rfl) ?_
    refine sl_nil ?_
    refine sw_block ?_
    refine sw_seq ?_
    refine sl_region ?_
    first
      | refine sl_fieldAddr_ptr rfl rfl rfl fo_25_0 ?_
      | refine sl_fieldAddr_rp rfl rfl rfl fo_25_0 ?_
      | refine sl_fieldAddr_ref rfl rfl rfl fo_25_0 ?_
    first
      | refine sl_load_rp1 rfl rfl rfl ag_4 rfl ?_
      | refine sl_load_blk1 rfl rfl rfl ag_4 (by repeat constructor) rfl ?_
    refine sl_not rfl rfl rfl ?_
    refine sl_as rfl rfl rfl ?_
    refine sl_nil ?_
    refine sw_cond rfl (fun h1 => ?_) (fun h1 => ?_)
    · refine sw_skip ?_
      refine sl_region ?_
      first
        | refine sl_inc rfl rfl rfl rfl (by omega) ?_
        | refine sl_add rfl rfl rfl rfl (by constructor <;> omega) ?_
        | refine sl_bin rfl rfl rfl rfl rfl ?_
      refine sl_mv rfl rfl rfl ?_
      refine sl_nil ?_
      refine ⟨_, by omega, _, _, ?_, ?_, k + 1, acc, rfl, rfl, rfl, rfl, (by omega), (by rw [joinL_snoc hk, ← hacc]; unfold jn; rw [if_pos (by simpa using h1)])⟩
      · exact ⟨rfl, by repeat constructor⟩
      · repeat constructor
    refine sw_seq ?_
    refine sl_region ?_
    first
      | refine sl_fieldAddr_ptr rfl rfl rfl fo_25_0 ?_
      | refine sl_fieldAddr_rp rfl rfl rfl fo_25_0 ?_
      | refine sl_fieldAddr_ref rfl rfl rfl fo_25_0 ?_
    first
      | refine sl_load_rp1 rfl rfl rfl ag_4 rfl ?_
      | refine sl_load_blk1 rfl rfl rfl ag_4 (by repeat constructor) rfl ?_
    refine sl_not rfl rfl rfl ?_
    refine sl_as rfl rfl rfl ?_
    refine sl_nil ?_
    refine sw_cond rfl (fun h2 => ?_) (fun h2 => ?_)
    · refine sl_region ?_
      first
        | refine sl_load_rpn rfl rfl rfl ag_25 sz_25 (Nat.le_of_ble_eq_true rfl) ?_
        | refine sl_load_blkn rfl rfl rfl ag_25 sz_25 (by repeat constructor) (Nat.le_of_ble_eq_true rfl) ?_
        | refine sl_load_ref rfl rfl rfl ag_25 sz_25 (Nat.le_of_ble_eq_true rfl) ?_
      refine sl_stp rfl rfl rfl rfl sz_25 rfl rfl rfl (by repeat constructor) (Nat.le_of_ble_eq_true rfl) ?_
      refine sl_nil ?_
      refine sl_region ?_
      first
        | refine sl_inc rfl rfl rfl rfl (by omega) ?_
        | refine sl_add rfl rfl rfl rfl (by constructor <;> omega) ?_
        | refine sl_bin rfl rfl rfl rfl rfl ?_
      refine sl_mv rfl rfl rfl ?_
      refine sl_nil ?_
      refine ⟨_, by omega, _, _, ?_, ?_, k + 1, nrm l[k], rfl, rfl, rfl, rfl, (by omega), (by rw [joinL_snoc hk, ← hacc]; unfold jn; rw [if_neg (by simpa using h1), if_pos (by simpa using h2)])⟩
      · exact ⟨rfl, by repeat constructor⟩
      · repeat constructor
    refine sa_start [(b5, 1, .int .i64 (nrm l[k]).lo), (b5, 2, .int .i64 (nrm l[k]).hi)] mixed ?_
    first
      | refine sa_take 0 rfl rfl (by kernel_rfl) (by repeat constructor) (pu_fieldAddr_ptr rfl rfl fo_25_1) ?_
      | refine sa_take 0 rfl rfl (by kernel_rfl) (by repeat constructor) (pu_fieldAddr_rp rfl rfl fo_25_1) ?_
      | refine sa_take 0 rfl rfl (by kernel_rfl) (by repeat constructor) (pu_fieldAddr_ref rfl rfl fo_25_1) ?_
    first
      | refine sa_take 2 rfl rfl (by kernel_rfl) (by repeat constructor) (pu_fieldAddr_ptr rfl rfl fo_25_1) ?_
      | refine sa_take 2 rfl rfl (by kernel_rfl) (by repeat constructor) (pu_fieldAddr_rp rfl rfl fo_25_1) ?_
      | refine sa_take 2 rfl rfl (by kernel_rfl) (by repeat constructor) (pu_fieldAddr_ref rfl rfl fo_25_1) ?_
    first
      | refine sa_take 3 rfl rfl (by kernel_rfl) (by repeat constructor) (pu_load_rp1 rfl rfl ag_2 rfl) ?_
      | refine sa_take 3 rfl rfl (by kernel_rfl) (by repeat constructor) (pu_load_blk1 rfl rfl ag_2 (by repeat constructor) (by first | exact fun _ _ _ => .val _ _ (.int _ _) | exact fun _ _ _ => .val _ _ (.bool _) | exact fun _ _ _ => .ptr _ _ | assumption)) ?_
    first
      | refine sa_take 5 rfl rfl (by kernel_rfl) (by repeat constructor) (pu_fieldAddr_ptr rfl rfl fo_25_2) ?_
      | refine sa_take 5 rfl rfl (by kernel_rfl) (by repeat constructor) (pu_fieldAddr_rp rfl rfl fo_25_2) ?_
      | refine sa_take 5 rfl rfl (by kernel_rfl) (by repeat constructor) (pu_fieldAddr_ref rfl rfl fo_25_2) ?_
    first
      | refine sa_take 7 rfl rfl (by kernel_rfl) (by repeat constructor) (pu_fieldAddr_ptr rfl rfl fo_25_2) ?_
      | refine sa_take 7 rfl rfl (by kernel_rfl) (by repeat constructor) (pu_fieldAddr_rp rfl rfl fo_25_2) ?_
      | refine sa_take 7 rfl rfl (by kernel_rfl) (by repeat constructor) (pu_fieldAddr_ref rfl rfl fo_25_2) ?_
    first
      | refine sa_take 8 rfl rfl (by kernel_rfl) (by repeat constructor) (pu_load_rp1 rfl rfl ag_2 rfl) ?_
      | refine sa_take 8 rfl rfl (by kernel_rfl) (by repeat constructor) (pu_load_blk1 rfl rfl ag_2 (by repeat constructor) (by first | exact fun _ _ _ => .val _ _ (.int _ _) | exact fun _ _ _ => .val _ _ (.bool _) | exact fun _ _ _ => .ptr _ _ | assumption)) ?_
    refine sa_two 1 6 (by kernel_rfl) rfl rfl ?_ ?_
    · refine sl_load_blk1 rfl rfl rfl ag_2 (by repeat constructor) rfl ?_
      refine sl_nil ⟨(by repeat constructor), ?_⟩
      refine sa_take 4 rfl rfl (by kernel_rfl) (by repeat constructor) (pu_min rfl rfl rfl) ?_
      refine sa_one 6 (by kernel_rfl) rfl ?_
      refine sl_load_blk1 rfl rfl rfl ag_2 (by repeat constructor) rfl ?_
      refine sl_nil ⟨(by repeat constructor), ?_⟩
      refine sa_take 9 rfl rfl (by kernel_rfl) (by repeat constructor) (pu_max rfl rfl rfl) ?_
      first
        | refine sa_take 10 rfl rfl (by kernel_rfl) (by repeat constructor) (pu_fieldAddr_ptr rfl rfl fo_25_1) ?_
        | refine sa_take 10 rfl rfl (by kernel_rfl) (by repeat constructor) (pu_fieldAddr_rp rfl rfl fo_25_1) ?_
        | refine sa_take 10 rfl rfl (by kernel_rfl) (by repeat constructor) (pu_fieldAddr_ref rfl rfl fo_25_1) ?_
      refine sa_one 11 (by kernel_rfl) rfl ?_
      refine sl_stp rfl rfl rfl rfl sz_2 rfl rfl rfl (by repeat constructor) (Nat.le_of_ble_eq_true rfl) ?_
      refine sl_nil ⟨(by repeat constructor), ?_⟩
      first
        | refine sa_take 12 rfl rfl (by kernel_rfl) (by repeat constructor) (pu_fieldAddr_ptr rfl rfl fo_25_2) ?_
        | refine sa_take 12 rfl rfl (by kernel_rfl) (by repeat constructor) (pu_fieldAddr_rp rfl rfl fo_25_2) ?_
        | refine sa_take 12 rfl rfl (by kernel_rfl) (by repeat constructor) (pu_fieldAddr_ref rfl rfl fo_25_2) ?_
      refine sa_one 13 (by kernel_rfl) rfl ?_
      refine sl_stp rfl rfl rfl rfl sz_2 rfl rfl rfl (by repeat constructor) (Nat.le_of_ble_eq_true rfl) ?_
      refine sl_nil ⟨(by repeat constructor), ?_⟩
      refine sa_done (by kernel_rfl) ?_
      refine sl_region ?_
      first
        | refine sl_inc rfl rfl rfl rfl (by omega) ?_
        | refine sl_add rfl rfl rfl rfl (by constructor <;> omega) ?_
        | refine sl_bin rfl rfl rfl rfl rfl ?_
      refine sl_mv rfl rfl rfl ?_
      refine sl_nil ?_
      refine ⟨_, by omega, _, _, ?_, ?_, k + 1, ⟨acc.some, if (nrm l[k]).lo < acc.lo then (nrm l[k]).lo else acc.lo, if (nrm l[k]).hi > acc.hi then (nrm l[k]).hi else acc.hi⟩, rfl, rfl, rfl, rfl, (by omega), (by rw [joinL_snoc hk, ← hacc, ite_min, ite_max]; unfold jn; rw [if_neg (by simpa using h1), if_neg (by simpa using h2)]; exact Ivl.ext' (by simpa using h2) rfl rfl)⟩
      · exact ⟨rfl, by repeat constructor⟩
      · repeat constructor
    refine sl_load_blk1 rfl rfl rfl ag_2 (by repeat constructor) rfl ?_
    refine sl_nil ⟨(by repeat constructor), ?_⟩
    refine sa_take 9 rfl rfl (by kernel_rfl) (by repeat constructor) (pu_max rfl rfl rfl) ?_
    refine sa_one 1 (by kernel_rfl) rfl ?_
    refine sl_load_blk1 rfl rfl rfl ag_2 (by repeat constructor) rfl ?_
    refine sl_nil ⟨(by repeat constructor), ?_⟩
    refine sa_take 4 rfl rfl (by kernel_rfl) (by repeat constructor) (pu_min rfl rfl rfl) ?_
    first
      | refine sa_take 10 rfl rfl (by kernel_rfl) (by repeat constructor) (pu_fieldAddr_ptr rfl rfl fo_25_1) ?_
      | refine sa_take 10 rfl rfl (by kernel_rfl) (by repeat constructor) (pu_fieldAddr_rp rfl rfl fo_25_1) ?_
      | refine sa_take 10 rfl rfl (by kernel_rfl) (by repeat constructor) (pu_fieldAddr_ref rfl rfl fo_25_1) ?_
    refine sa_one 11 (by kernel_rfl) rfl ?_
    refine sl_stp rfl rfl rfl rfl sz_2 rfl rfl rfl (by repeat constructor) (Nat.le_of_ble_eq_true rfl) ?_
    refine sl_nil ⟨(by repeat constructor), ?_⟩
    first
      | refine sa_take 12 rfl rfl (by kernel_rfl) (by repeat constructor) (pu_fieldAddr_ptr rfl rfl fo_25_2) ?_
      | refine sa_take 12 rfl rfl (by kernel_rfl) (by repeat constructor) (pu_fieldAddr_rp rfl rfl fo_25_2) ?_
      | refine sa_take 12 rfl rfl (by kernel_rfl) (by repeat constructor) (pu_fieldAddr_ref rfl rfl fo_25_2) ?_
    refine sa_one 13 (by kernel_rfl) rfl ?_
    refine sl_stp rfl rfl rfl rfl sz_2 rfl rfl rfl (by repeat constructor) (Nat.le_of_ble_eq_true rfl) ?_
    refine sl_nil ⟨(by repeat constructor), ?_⟩
    refine sa_done (by kernel_rfl) ?_
    refine sl_region ?_
    first
      | refine sl_inc rfl rfl rfl rfl (by omega) ?_
      | refine sl_add rfl rfl rfl rfl (by constructor <;> omega) ?_
      | refine sl_bin rfl rfl rfl rfl rfl ?_
    refine sl_mv rfl rfl rfl ?_
    refine sl_nil ?_
    refine ⟨_, by omega, _, _, ?_, ?_, k + 1, ⟨acc.some, if (nrm l[k]).lo < acc.lo then (nrm l[k]).lo else acc.lo, if (nrm l[k]).hi > acc.hi then (nrm l[k]).hi else acc.hi⟩, rfl, rfl, rfl, rfl, (by omega), (by rw [joinL_snoc hk, ← hacc, ite_min, ite_max]; unfold jn; rw [if_neg (by simpa using h1), if_neg (by simpa using h2)]; exact Ivl.ext' (by simpa using h2) rfl rfl)⟩
    · exact ⟨rfl, by repeat constructor⟩
    · repeat constructor
  have hk : k = l.length := by have := of_decide_eq_false hk; simp only [List.length_map] at this; omega
  refine sw_exit ?_
  refine sw_seq ?_
  refine sl_region ?_
  first
    | refine sl_load_rpn rfl rfl rfl ag_25 sz_25 (Nat.le_of_ble_eq_true rfl) ?_
    | refine sl_load_blkn rfl rfl rfl ag_25 sz_25 (by repeat constructor) (Nat.le_of_ble_eq_true rfl) ?_
    | refine sl_load_ref rfl rfl rfl ag_25 sz_25 (Nat.le_of_ble_eq_true rfl) ?_
  refine sl_stp rfl rfl rfl rfl sz_25 rfl rfl rfl (by repeat constructor) (Nat.le_of_ble_eq_true rfl) ?_
  refine sl_nil ?_
  refine sw_ret ⟨rfl, _, _, ResD.weak (res_celln rfl rfl ag_25 sz_25 (by repeat constructor) (Nat.le_of_ble_eq_true rfl)) (Weak.toV rfl ), ?_, by rw [hacc, hk, List.take_length]; exact ⟨rfl, rfl⟩⟩
  repeat constructor

theorem rjoin_ok (l : List Ivl) (hl : l.length ≤ 1000) (σ : List Chunk) : FSpec Tryd.prog 18 [.val (.list (l.map ivlV))] σ (fun d σ' => d = .val (ivlV (joinL l)) ∧ σ' = σ) := by
  refine spec_of_sw Tryd.func18 rfl ?_
  refine sw_seq ?_
  refine sl_region ?_
  refine sl_alloc rfl rfl zd_25 (fun b2 => ?_)
  refine sl_nil ?_
  refine sw_seq ?_
  refine sl_region ?_
  refine sl_alloc rfl rfl zd_25 (fun b3 => ?_)
  refine sl_nil ?_
  refine sw_seq ?_
  refine sw_seq ?_
  refine sl_region ?_
  refine sl_as rfl rfl rfl ?_
  refine sl_nil ?_
  refine sw_block ?_
  refine sw_loopw (fun nX sX δX σX => ∃ (k : Nat) (acc : Ivl), (l.length - k) = nX ∧ sX = ⟨38, (.cons 0 (.val (.list (l.map ivlV))) (.cons 2 (.ptr b2 0) (.cons 3 (.ptr b3 0) (.cons 4 (.val (.int .i64 (k : Int))) .nil))))⟩ ∧ δX = [] ∧ σX = .blk b3 (rowOf (ivlV acc)) :: .blk b2 (rowOf (ivlV noIval)) :: σ ∧ (k ≤ l.length) ∧ (acc = joinL (l.take k))) ?_ ?_
  · refine ⟨_, _, _, ?_, ?_, 0, noIval, rfl, rfl, rfl, rfl, (Nat.zero_le _), (rfl)⟩
    · exact ⟨rfl, by repeat constructor⟩
    · repeat constructor
  rintro nX sX δX σX ⟨k, acc, rfl, rfl, rfl, rfl, hk0, hacc⟩
  refine sw_seq ?_
  refine sw_seq ?_
  refine sl_region ?_
  refine sl_mv rfl rfl rfl ?_
  refine sl_mv rfl rfl rfl ?_
  first
    | refine sl_len rfl rfl rfl ⟨_, u_22⟩ ?_
    | refine sl_len_sl rfl rfl rfl ⟨_, u_22⟩ ?_
    | refine sl_len_w _ rfl rfl rfl ⟨_, u_22⟩ ?_
  refine sl_bin rfl rfl rfl rfl rfl ?_
  refine sl_nil ?_
  refine sw_cond rfl (fun hk => ?_) (fun hk => ?_)
  · have hk : k < l.length := by simpa using hk
    refine sw_skip ?_
    refine sw_seq ?_
    refine sw_block ?_
    refine sw_seq ?_
    refine sl_region ?_
    refine sl_mv rfl rfl rfl ?_
    refine sl_mv rfl rfl rfl ?_
    refine sl_indexAddr' rfl rfl rfl rfl u_22 sz_25 (by omega) (idx_map hk) rfl ?_
    first
      | refine sl_load_rpn rfl rfl rfl ag_25 sz_25 (Nat.le_of_ble_eq_true rfl) ?_
      | refine sl_load_blkn rfl rfl rfl ag_25 sz_25 (by repeat constructor) (Nat.le_of_ble_eq_true rfl) ?_
      | refine sl_load_ref rfl rfl rfl ag_25 sz_25 (Nat.le_of_ble_eq_true rfl) ?_
    refine sl_callp rfl rfl cal_29 (norm_ok l[k]) ?_ ?_
    · repeat constructor
    refine sl_alloc rfl rfl zd_25 (fun b5 => ?_)
    refine sl_stp rfl rfl rfl rfl sz_25 rfl rfl rfl (by repeat constructor) (Nat.le_of_ble_eq_true rfl) ?_
    refine sl_nil ?_
    refine sw_block ?_
    refine sw_seq ?_
    refine sl_region ?_
    first
      | refine sl_fieldAddr_ptr rfl rfl rfl fo_25_0 ?_
      | refine sl_fieldAddr_rp rfl rfl rfl fo_25_0 ?_
      | refine sl_fieldAddr_ref rfl rfl rfl fo_25_0 ?_
    first
      | refine sl_load_rp1 rfl rfl rfl ag_4 rfl ?_
      | refine sl_load_blk1 rfl rfl rfl ag_4 (by repeat constructor) rfl ?_
    refine sl_not rfl rfl rfl ?_
    refine sl_as rfl rfl rfl ?_
    refine sl_nil ?_
    refine sw_cond rfl (fun h1 => ?_) (fun h1 => ?_)
    · refine sw_skip ?_
      refine sl_region ?_
      refine sl_mv rfl rfl rfl ?_
      first
        | refine sl_inc rfl rfl rfl rfl (by omega) ?_
        | refine sl_add rfl rfl rfl rfl (by constructor <;> omega) ?_
        | refine sl_bin rfl rfl rfl rfl rfl ?_
      refine sl_as rfl rfl rfl ?_
      refine sl_nil ?_
      refine ⟨_, by omega, _, _, ?_, ?_, k + 1, acc, rfl, rfl, rfl, rfl, (by omega), (by rw [joinL_snoc hk, ← hacc]; unfold jn; rw [if_pos (by simpa using h1)])⟩
      · exact ⟨rfl, by repeat constructor⟩
      · repeat constructor
    refine sw_seq ?_
    refine sl_region ?_
    first
      | refine sl_fieldAddr_ptr rfl rfl rfl fo_25_0 ?_
      | refine sl_fieldAddr_rp rfl rfl rfl fo_25_0 ?_
      | refine sl_fieldAddr_ref rfl rfl rfl fo_25_0 ?_
    first
      | refine sl_load_rp1 rfl rfl rfl ag_4 rfl ?_
      | refine sl_load_blk1 rfl rfl rfl ag_4 (by repeat constructor) rfl ?_
    refine sl_not rfl rfl rfl ?_
    refine sl_as rfl rfl rfl ?_
    refine sl_nil ?_
    refine sw_cond rfl (fun h2 => ?_) (fun h2 => ?_)
    · refine sl_region ?_
      first
        | refine sl_load_rpn rfl rfl rfl ag_25 sz_25 (Nat.le_of_ble_eq_true rfl) ?_
        | refine sl_load_blkn rfl rfl rfl ag_25 sz_25 (by repeat constructor) (Nat.le_of_ble_eq_true rfl) ?_
        | refine sl_load_ref rfl rfl rfl ag_25 sz_25 (Nat.le_of_ble_eq_true rfl) ?_
      refine sl_stp rfl rfl rfl rfl sz_25 rfl rfl rfl (by repeat constructor) (Nat.le_of_ble_eq_true rfl) ?_
      refine sl_nil ?_
      refine sl_region ?_
      refine sl_mv rfl rfl rfl ?_
      first
        | refine sl_inc rfl rfl rfl rfl (by omega) ?_
        | refine sl_add rfl rfl rfl rfl (by constructor <;> omega) ?_
        | refine sl_bin rfl rfl rfl rfl rfl ?_
      refine sl_as rfl rfl rfl ?_
      refine sl_nil ?_
      refine ⟨_, by omega, _, _, ?_, ?_, k + 1, nrm l[k], rfl, rfl, rfl, rfl, (by omega), (by rw [joinL_snoc hk, ← hacc]; unfold jn; rw [if_neg (by simpa using h1), if_pos (by simpa using h2)])⟩
      · exact ⟨rfl, by repeat constructor⟩
      · repeat constructor
    refine sl_region ?_
    first
      | refine sl_fieldAddr_ptr rfl rfl rfl fo_25_1 ?_
      | refine sl_fieldAddr_rp rfl rfl rfl fo_25_1 ?_
      | refine sl_fieldAddr_ref rfl rfl rfl fo_25_1 ?_
    first
      | refine sl_load_rp1 rfl rfl rfl ag_2 rfl ?_
      | refine sl_load_blk1 rfl rfl rfl ag_2 (by repeat constructor) rfl ?_
    first
      | refine sl_fieldAddr_ptr rfl rfl rfl fo_25_1 ?_
      | refine sl_fieldAddr_rp rfl rfl rfl fo_25_1 ?_
      | refine sl_fieldAddr_ref rfl rfl rfl fo_25_1 ?_
    first
      | refine sl_load_rp1 rfl rfl rfl ag_2 rfl ?_
      | refine sl_load_blk1 rfl rfl rfl ag_2 (by repeat constructor) rfl ?_
    refine sl_min rfl rfl rfl rfl ?_
    first
      | refine sl_fieldAddr_ptr rfl rfl rfl fo_25_2 ?_
      | refine sl_fieldAddr_rp rfl rfl rfl fo_25_2 ?_
      | refine sl_fieldAddr_ref rfl rfl rfl fo_25_2 ?_
    first
      | refine sl_load_rp1 rfl rfl rfl ag_2 rfl ?_
      | refine sl_load_blk1 rfl rfl rfl ag_2 (by repeat constructor) rfl ?_
    first
      | refine sl_fieldAddr_ptr rfl rfl rfl fo_25_2 ?_
      | refine sl_fieldAddr_rp rfl rfl rfl fo_25_2 ?_
      | refine sl_fieldAddr_ref rfl rfl rfl fo_25_2 ?_
    first
      | refine sl_load_rp1 rfl rfl rfl ag_2 rfl ?_
      | refine sl_load_blk1 rfl rfl rfl ag_2 (by repeat constructor) rfl ?_
    refine sl_max rfl rfl rfl rfl ?_
    refine sl_callp rfl rfl cal_25 (rof_ok (if (nrm l[k]).lo < acc.lo then (nrm l[k]).lo else acc.lo) (if (nrm l[k]).hi > acc.hi then (nrm l[k]).hi else acc.hi)) ?_ ?_
    · repeat constructor
    refine sl_stp rfl rfl rfl rfl sz_25 rfl rfl rfl (by repeat constructor) (Nat.le_of_ble_eq_true rfl) ?_
    refine sl_nil ?_
    refine sl_region ?_
    refine sl_mv rfl rfl rfl ?_
    first
      | refine sl_inc rfl rfl rfl rfl (by omega) ?_
      | refine sl_add rfl rfl rfl rfl (by constructor <;> omega) ?_
      | refine sl_bin rfl rfl rfl rfl rfl ?_
    refine sl_as rfl rfl rfl ?_
    refine sl_nil ?_
    refine ⟨_, by omega, _, _, ?_, ?_, k + 1, ofI (if (nrm l[k]).lo < acc.lo then (nrm l[k]).lo else acc.lo) (if (nrm l[k]).hi > acc.hi then (nrm l[k]).hi else acc.hi), rfl, rfl, rfl, rfl, (by omega), (by rw [joinL_snoc hk, ← hacc, ite_min, ite_max]; exact jn_of (by rw [hacc]; exact joinL_le _) (nrm_le _) (by simpa using h1) (by simpa using h2))⟩
    · exact ⟨rfl, by repeat constructor⟩
    · repeat constructor
  have hk : k = l.length := by have := of_decide_eq_false hk; simp only [List.length_map] at this; omega
  refine sw_exit ?_
  refine sw_seq ?_
  refine sl_region ?_
  first
    | refine sl_load_rpn rfl rfl rfl ag_25 sz_25 (Nat.le_of_ble_eq_true rfl) ?_
    | refine sl_load_blkn rfl rfl rfl ag_25 sz_25 (by repeat constructor) (Nat.le_of_ble_eq_true rfl) ?_
    | refine sl_load_ref rfl rfl rfl ag_25 sz_25 (Nat.le_of_ble_eq_true rfl) ?_
  refine sl_stp rfl rfl rfl rfl sz_25 rfl rfl rfl (by repeat constructor) (Nat.le_of_ble_eq_true rfl) ?_
  refine sl_nil ?_
  refine sw_ret ⟨rfl, _, _, ResD.weak (res_celln rfl rfl ag_25 sz_25 (by repeat constructor) (Nat.le_of_ble_eq_true rfl)) (Weak.toV rfl ), ?_, by rw [hacc, hk, List.take_length]; exact ⟨rfl, rfl⟩⟩
  repeat constructor


theorem imeet_ok (l : List Ivl) (hl : l.length ≤ 1000) (σ : List Chunk) : FSpec Tryd.prog 19 [.val (.list (l.map ivlV))] σ (fun d σ' => d = .val (ivlV (meetL l)) ∧ σ' = σ) := by
  refine spec_of_sw Tryd.func19 rfl ?_
  refine sw_seq ?_
  refine sl_region ?_
  refine sl_alloc rfl rfl zd_25 (fun b2 => ?_)
  refine sl_nil ?_
  refine sw_seq ?_
  refine sl_region ?_
  refine sl_callp rfl rfl cal_15 (itop_ok) ?_ ?_
  · repeat constructor
  refine sl_alloc rfl rfl zd_25 (fun b3 => ?_)
  refine sl_stp rfl rfl rfl rfl sz_25 rfl rfl rfl (by repeat constructor) (Nat.le_of_ble_eq_true rfl) ?_
  refine sl_nil ?_
  refine sw_seq ?_
  refine sw_seq ?_
  refine sl_region ?_
  refine sl_mv rfl rfl rfl ?_
  first
    | refine sl_len rfl rfl rfl ⟨_, u_22⟩ ?_
    | refine sl_len_sl rfl rfl rfl ⟨_, u_22⟩ ?_
    | refine sl_len_w _ rfl rfl rfl ⟨_, u_22⟩ ?_
  refine sl_mv rfl rfl rfl ?_
  refine sl_nil ?_
  refine sw_block ?_
  refine sw_loopw (fun nX sX δX σX => ∃ (k : Nat) (acc : Ivl), (l.length - k) = nX ∧ sX = ⟨37, (.cons 2 (.ptr b2 0) (.cons 3 (.ptr b3 0) (.cons 7 (.val (.list (l.map ivlV))) (.cons 8 (.val (.int .i64 (l.map ivlV).length)) (.cons 9 (.val (.int .i64 (k : Int))) .nil)))))⟩ ∧ δX = [] ∧ σX = .blk b3 (rowOf (ivlV acc)) :: .blk b2 (rowOf (ivlV noIval)) :: σ ∧ (k ≤ l.length) ∧ (acc = meetL (l.take k))) ?_ ?_
  · refine ⟨_, _, _, ?_, ?_, 0, topI, rfl, rfl, rfl, rfl, (Nat.zero_le _), (rfl)⟩
    · exact ⟨rfl, by repeat constructor⟩
    · repeat constructor
  rintro nX sX δX σX ⟨k, acc, rfl, rfl, rfl, rfl, hk0, hacc⟩
  refine sw_seq ?_
  refine sl_region ?_
  refine sl_bin rfl rfl rfl rfl rfl ?_
  refine sl_nil ?_
  refine sw_seq ?_
  refine sw_cond rfl (fun hk => ?_) (fun hk => ?_)
  · have hk : k < l.length := by simpa using hk
    refine sw_skip ?_
    refine sw_seq ?_
    refine sw_block ?_
    refine sw_seq ?_
    refine sl_region ?_
    refine sl_indexAddr' rfl rfl rfl rfl u_22 sz_25 (by omega) (idx_map hk) rfl ?_
    first
      | refine sl_load_rpn rfl rfl rfl ag_25 sz_25 (Nat.le_of_ble_eq_true rfl) ?_
      | refine sl_load_blkn rfl rfl rfl ag_25 sz_25 (by repeat constructor) (Nat.le_of_ble_eq_true rfl) ?_
      | refine sl_load_ref rfl rfl rfl ag_25 sz_25 (Nat.le_of_ble_eq_true rfl) ?_
    refine sl_alloc rfl rfl zd_25 (fun b5 => ?_)
    refine sl_stp rfl rfl rfl rfl sz_25 rfl rfl rfl (by repeat constructor) (Nat.le_of_ble_eq_true rfl) ?_
    refine sl_nil ?_
    refine sw_seq ?_
    refine sw_seq ?_
    refine sl_region ?_
    first
      | refine sl_load_rpn rfl rfl rfl ag_25 sz_25 (Nat.le_of_ble_eq_true rfl) ?_
      | refine sl_load_blkn rfl rfl rfl ag_25 sz_25 (by repeat constructor) (Nat.le_of_ble_eq_true rfl) ?_
      | refine sl_load_ref rfl rfl rfl ag_25 sz_25 (Nat.le_of_ble_eq_true rfl) ?_
    refine sl_callp rfl rfl cal_27 (plain_ok l[k]) ?_ ?_
    · repeat constructor
    refine sl_stp rfl rfl rfl rfl sz_25 rfl rfl rfl (by repeat constructor) (Nat.le_of_ble_eq_true rfl) ?_
    refine sl_nil ?_
    refine sw_seq ?_
    refine sl_region ?_
    first
      | refine sl_fieldAddr_ptr rfl rfl rfl fo_25_0 ?_
      | refine sl_fieldAddr_rp rfl rfl rfl fo_25_0 ?_
      | refine sl_fieldAddr_ref rfl rfl rfl fo_25_0 ?_
    first
      | refine sl_load_rp1 rfl rfl rfl ag_4 rfl ?_
      | refine sl_load_blk1 rfl rfl rfl ag_4 (by repeat constructor) rfl ?_
    refine sl_not rfl rfl rfl ?_
    refine sl_mv rfl rfl rfl ?_
    refine sl_case_at 18 rfl (fun h1 => ?_) (fun h1 => ?_)
    · refine sl_guard_n rfl rfl rfl h1 ?_
      refine sl_guard_n rfl rfl rfl h1 ?_
      refine sl_guard_n rfl rfl rfl h1 ?_
      refine sl_pk_t rfl rfl rfl h1 rfl ?_
      refine sl_nil ?_
      refine sw_true rfl (rfl) ?_
      refine sw_seq ?_
      refine sl_region ?_
      refine sl_bd rfl rfl .nil bi_25 zd_25 rfl ?_
      refine sl_stp rfl rfl rfl rfl sz_25 rfl rfl rfl (by repeat constructor) (Nat.le_of_ble_eq_true rfl) ?_
      refine sl_nil ?_
      refine sw_ret ⟨rfl, _, _, ResD.weak (res_celln rfl rfl ag_25 sz_25 (by repeat constructor) (Nat.le_of_ble_eq_true rfl)) (Weak.toV rfl ), ?_, by rw [meetL_stop hk (by unfold mt; rw [if_pos (.inl (by simpa using h1))])]; exact ⟨rfl, rfl⟩⟩
      repeat constructor
    refine sl_guard_y rfl rfl rfl h1 ?_
    first
      | refine sl_fieldAddr_ptr rfl rfl rfl fo_25_0 ?_
      | refine sl_fieldAddr_rp rfl rfl rfl fo_25_0 ?_
      | refine sl_fieldAddr_ref rfl rfl rfl fo_25_0 ?_
    refine sl_guard_y rfl rfl rfl h1 ?_
    first
      | refine sl_load_rp1 rfl rfl rfl ag_4 rfl ?_
      | refine sl_load_blk1 rfl rfl rfl ag_4 (by repeat constructor) rfl ?_
    refine sl_guard_y rfl rfl rfl h1 ?_
    refine sl_not rfl rfl rfl ?_
    refine sl_pk_f rfl rfl rfl h1 rfl ?_
    refine sl_nil ?_
    refine sw_cond rfl (fun h2 => ?_) (fun h2 => ?_)
    · refine sw_seq ?_
      refine sl_region ?_
      refine sl_bd rfl rfl .nil bi_25 zd_25 rfl ?_
      refine sl_stp rfl rfl rfl rfl sz_25 rfl rfl rfl (by repeat constructor) (Nat.le_of_ble_eq_true rfl) ?_
      refine sl_nil ?_
      refine sw_ret ⟨rfl, _, _, ResD.weak (res_celln rfl rfl ag_25 sz_25 (by repeat constructor) (Nat.le_of_ble_eq_true rfl)) (Weak.toV rfl ), ?_, by rw [meetL_stop hk (by rw [← hacc]; unfold mt; rw [if_pos (.inr (by simpa using h2))])]; exact ⟨rfl, rfl⟩⟩
      repeat constructor
    refine sw_skip ?_
    refine sl_region ?_
    first
      | refine sl_fieldAddr_ptr rfl rfl rfl fo_25_1 ?_
      | refine sl_fieldAddr_rp rfl rfl rfl fo_25_1 ?_
      | refine sl_fieldAddr_ref rfl rfl rfl fo_25_1 ?_
    first
      | refine sl_load_rp1 rfl rfl rfl ag_2 rfl ?_
      | refine sl_load_blk1 rfl rfl rfl ag_2 (by repeat constructor) rfl ?_
    first
      | refine sl_fieldAddr_ptr rfl rfl rfl fo_25_1 ?_
      | refine sl_fieldAddr_rp rfl rfl rfl fo_25_1 ?_
      | refine sl_fieldAddr_ref rfl rfl rfl fo_25_1 ?_
    first
      | refine sl_load_rp1 rfl rfl rfl ag_2 rfl ?_
      | refine sl_load_blk1 rfl rfl rfl ag_2 (by repeat constructor) rfl ?_
    refine sl_max rfl rfl rfl rfl ?_
    first
      | refine sl_fieldAddr_ptr rfl rfl rfl fo_25_2 ?_
      | refine sl_fieldAddr_rp rfl rfl rfl fo_25_2 ?_
      | refine sl_fieldAddr_ref rfl rfl rfl fo_25_2 ?_
    first
      | refine sl_load_rp1 rfl rfl rfl ag_2 rfl ?_
      | refine sl_load_blk1 rfl rfl rfl ag_2 (by repeat constructor) rfl ?_
    first
      | refine sl_fieldAddr_ptr rfl rfl rfl fo_25_2 ?_
      | refine sl_fieldAddr_rp rfl rfl rfl fo_25_2 ?_
      | refine sl_fieldAddr_ref rfl rfl rfl fo_25_2 ?_
    first
      | refine sl_load_rp1 rfl rfl rfl ag_2 rfl ?_
      | refine sl_load_blk1 rfl rfl rfl ag_2 (by repeat constructor) rfl ?_
    refine sl_min rfl rfl rfl rfl ?_
    refine sl_callp rfl rfl cal_13 (iof_ok (if (nrm l[k]).lo > acc.lo then (nrm l[k]).lo else acc.lo) (if (nrm l[k]).hi < acc.hi then (nrm l[k]).hi else acc.hi)) ?_ ?_
    · repeat constructor
    refine sl_stp rfl rfl rfl rfl sz_25 rfl rfl rfl (by repeat constructor) (Nat.le_of_ble_eq_true rfl) ?_
    refine sl_nil ?_
    refine sl_region ?_
    first
      | refine sl_inc rfl rfl rfl rfl (by omega) ?_
      | refine sl_add rfl rfl rfl rfl (by constructor <;> omega) ?_
      | refine sl_bin rfl rfl rfl rfl rfl ?_
    refine sl_mv rfl rfl rfl ?_
    refine sl_nil ?_
    refine ⟨_, by omega, _, _, ?_, ?_, k + 1, ofI (if (nrm l[k]).lo > acc.lo then (nrm l[k]).lo else acc.lo) (if (nrm l[k]).hi < acc.hi then (nrm l[k]).hi else acc.hi), rfl, rfl, rfl, rfl, (by omega), (by rw [meetL_snoc hk, ← hacc, ite_min, ite_max]; unfold mt; rw [if_neg (by rintro (h | h); exact absurd h (by simpa using h1); exact absurd h (by simpa using h2))])⟩
    · exact ⟨rfl, by repeat constructor⟩
    · repeat constructor
  have hk : k = l.length := by have := of_decide_eq_false hk; simp only [List.length_map] at this; omega
  refine sw_exit ?_
  refine sw_seq ?_
  refine sl_region ?_
  first
    | refine sl_load_rpn rfl rfl rfl ag_25 sz_25 (Nat.le_of_ble_eq_true rfl) ?_
    | refine sl_load_blkn rfl rfl rfl ag_25 sz_25 (by repeat constructor) (Nat.le_of_ble_eq_true rfl) ?_
    | refine sl_load_ref rfl rfl rfl ag_25 sz_25 (Nat.le_of_ble_eq_true rfl) ?_
  refine sl_stp rfl rfl rfl rfl sz_25 rfl rfl rfl (by repeat constructor) (Nat.le_of_ble_eq_true rfl) ?_
  refine sl_nil ?_
  refine sw_ret ⟨rfl, _, _, ResD.weak (res_celln rfl rfl ag_25 sz_25 (by repeat constructor) (Nat.le_of_ble_eq_true rfl)) (Weak.toV rfl ), ?_, by rw [hacc, hk, List.take_length]; exact ⟨rfl, rfl⟩⟩
  repeat constructor

theorem rmeet_ok (l : List Ivl) (hl : l.length ≤ 1000) (σ : List Chunk) : FSpec Tryd.prog 20 [.val (.list (l.map ivlV))] σ (fun d σ' => d = .val (ivlV (meetL l)) ∧ σ' = σ) := by
  refine spec_of_sw Tryd.func20 rfl ?_
  refine sw_seq ?_
  refine sl_region ?_
  refine sl_alloc rfl rfl zd_25 (fun b2 => ?_)
  refine sl_nil ?_
  refine sw_seq ?_
  refine sl_region ?_
  refine sl_callp rfl rfl cal_26 (rtop_ok) ?_ ?_
  · repeat constructor
  refine sl_alloc rfl rfl zd_25 (fun b3 => ?_)
  refine sl_stp rfl rfl rfl rfl sz_25 rfl rfl rfl (by repeat constructor) (Nat.le_of_ble_eq_true rfl) ?_
  refine sl_nil ?_
  refine sw_seq ?_
  refine sw_seq ?_
  refine sl_region ?_
  refine sl_as rfl rfl rfl ?_
  refine sl_nil ?_
  refine sw_block ?_
  refine sw_loopw (fun nX sX δX σX => ∃ (k : Nat) (acc : Ivl), (l.length - k) = nX ∧ sX = ⟨39, (.cons 0 (.val (.list (l.map ivlV))) (.cons 2 (.ptr b2 0) (.cons 3 (.ptr b3 0) (.cons 4 (.val (.int .i64 (k : Int))) .nil))))⟩ ∧ δX = [] ∧ σX = .blk b3 (rowOf (ivlV acc)) :: .blk b2 (rowOf (ivlV noIval)) :: σ ∧ (k ≤ l.length) ∧ (acc = meetL (l.take k))) ?_ ?_
  · refine ⟨_, _, _, ?_, ?_, 0, topI, rfl, rfl, rfl, rfl, (Nat.zero_le _), (rfl)⟩
    · exact ⟨rfl, by repeat constructor⟩
    · repeat constructor
  rintro nX sX δX σX ⟨k, acc, rfl, rfl, rfl, rfl, hk0, hacc⟩
  refine sw_seq ?_
  refine sw_seq ?_
  refine sl_region ?_
  refine sl_mv rfl rfl rfl ?_
  refine sl_mv rfl rfl rfl ?_
  first
    | refine sl_len rfl rfl rfl ⟨_, u_22⟩ ?_
    | refine sl_len_sl rfl rfl rfl ⟨_, u_22⟩ ?_
    | refine sl_len_w _ rfl rfl rfl ⟨_, u_22⟩ ?_
  refine sl_bin rfl rfl rfl rfl rfl ?_
  refine sl_nil ?_
  refine sw_cond rfl (fun hk => ?_) (fun hk => ?_)
  · have hk : k < l.length := by simpa using hk
    refine sw_skip ?_
    refine sw_seq ?_
    refine sw_block ?_
    refine sw_seq ?_
    refine sl_region ?_
    refine sl_mv rfl rfl rfl ?_
    refine sl_mv rfl rfl rfl ?_
    refine sl_indexAddr' rfl rfl rfl rfl u_22 sz_25 (by omega) (idx_map hk) rfl ?_
    first
      | refine sl_load_rpn rfl rfl rfl ag_25 sz_25 (Nat.le_of_ble_eq_true rfl) ?_
      | refine sl_load_blkn rfl rfl rfl ag_25 sz_25 (by repeat constructor) (Nat.le_of_ble_eq_true rfl) ?_
      | refine sl_load_ref rfl rfl rfl ag_25 sz_25 (Nat.le_of_ble_eq_true rfl) ?_
    refine sl_callp rfl rfl cal_29 (norm_ok l[k]) ?_ ?_
    · repeat constructor
    refine sl_alloc rfl rfl zd_25 (fun b5 => ?_)
    refine sl_stp rfl rfl rfl rfl sz_25 rfl rfl rfl (by repeat constructor) (Nat.le_of_ble_eq_true rfl) ?_
    refine sl_nil ?_
    refine sw_seq ?_
    refine sw_seq ?_
    refine sl_region ?_
    first
      | refine sl_fieldAddr_ptr rfl rfl rfl fo_25_0 ?_
      | refine sl_fieldAddr_rp rfl rfl rfl fo_25_0 ?_
      | refine sl_fieldAddr_ref rfl rfl rfl fo_25_0 ?_
    first
      | refine sl_load_rp1 rfl rfl rfl ag_4 rfl ?_
      | refine sl_load_blk1 rfl rfl rfl ag_4 (by repeat constructor) rfl ?_
    refine sl_not rfl rfl rfl ?_
    refine sl_mv rfl rfl rfl ?_
    refine sl_case_at 21 rfl (fun h1 => ?_) (fun h1 => ?_)
    · refine sl_guard_n rfl rfl rfl h1 ?_
      refine sl_guard_n rfl rfl rfl h1 ?_
      refine sl_guard_n rfl rfl rfl h1 ?_
      refine sl_pk_t rfl rfl rfl h1 rfl ?_
      refine sl_nil ?_
      refine sw_true rfl (rfl) ?_
      refine sw_seq ?_
      refine sl_region ?_
      refine sl_bd rfl rfl .nil bi_25 zd_25 rfl ?_
      refine sl_stp rfl rfl rfl rfl sz_25 rfl rfl rfl (by repeat constructor) (Nat.le_of_ble_eq_true rfl) ?_
      refine sl_nil ?_
      refine sw_ret ⟨rfl, _, _, ResD.weak (res_celln rfl rfl ag_25 sz_25 (by repeat constructor) (Nat.le_of_ble_eq_true rfl)) (Weak.toV rfl ), ?_, by rw [meetL_stop hk (by unfold mt; rw [if_pos (.inl (by simpa using h1))])]; exact ⟨rfl, rfl⟩⟩
      repeat constructor
    refine sl_guard_y rfl rfl rfl h1 ?_
    first
      | refine sl_fieldAddr_ptr rfl rfl rfl fo_25_0 ?_
      | refine sl_fieldAddr_rp rfl rfl rfl fo_25_0 ?_
      | refine sl_fieldAddr_ref rfl rfl rfl fo_25_0 ?_
    refine sl_guard_y rfl rfl rfl h1 ?_
    first
      | refine sl_load_rp1 rfl rfl rfl ag_4 rfl ?_
      | refine sl_load_blk1 rfl rfl rfl ag_4 (by repeat constructor) rfl ?_
    refine sl_guard_y rfl rfl rfl h1 ?_
    refine sl_not rfl rfl rfl ?_
    refine sl_pk_f rfl rfl rfl h1 rfl ?_
    refine sl_nil ?_
    refine sw_cond rfl (fun h2 => ?_) (fun h2 => ?_)
    · refine sw_seq ?_
      refine sl_region ?_
      refine sl_bd rfl rfl .nil bi_25 zd_25 rfl ?_
      refine sl_stp rfl rfl rfl rfl sz_25 rfl rfl rfl (by repeat constructor) (Nat.le_of_ble_eq_true rfl) ?_
      refine sl_nil ?_
      refine sw_ret ⟨rfl, _, _, ResD.weak (res_celln rfl rfl ag_25 sz_25 (by repeat constructor) (Nat.le_of_ble_eq_true rfl)) (Weak.toV rfl ), ?_, by rw [meetL_stop hk (by rw [← hacc]; unfold mt; rw [if_pos (.inr (by simpa using h2))])]; exact ⟨rfl, rfl⟩⟩
      repeat constructor
    refine sw_skip ?_
    refine sl_region ?_
    first
      | refine sl_fieldAddr_ptr rfl rfl rfl fo_25_1 ?_
      | refine sl_fieldAddr_rp rfl rfl rfl fo_25_1 ?_
      | refine sl_fieldAddr_ref rfl rfl rfl fo_25_1 ?_
    first
      | refine sl_load_rp1 rfl rfl rfl ag_2 rfl ?_
      | refine sl_load_blk1 rfl rfl rfl ag_2 (by repeat constructor) rfl ?_
    first
      | refine sl_fieldAddr_ptr rfl rfl rfl fo_25_1 ?_
      | refine sl_fieldAddr_rp rfl rfl rfl fo_25_1 ?_
      | refine sl_fieldAddr_ref rfl rfl rfl fo_25_1 ?_
    first
      | refine sl_load_rp1 rfl rfl rfl ag_2 rfl ?_
      | refine sl_load_blk1 rfl rfl rfl ag_2 (by repeat constructor) rfl ?_
    refine sl_max rfl rfl rfl rfl ?_
    first
      | refine sl_fieldAddr_ptr rfl rfl rfl fo_25_2 ?_
      | refine sl_fieldAddr_rp rfl rfl rfl fo_25_2 ?_
      | refine sl_fieldAddr_ref rfl rfl rfl fo_25_2 ?_
    first
      | refine sl_load_rp1 rfl rfl rfl ag_2 rfl ?_
      | refine sl_load_blk1 rfl rfl rfl ag_2 (by repeat constructor) rfl ?_
    first
      | refine sl_fieldAddr_ptr rfl rfl rfl fo_25_2 ?_
      | refine sl_fieldAddr_rp rfl rfl rfl fo_25_2 ?_
      | refine sl_fieldAddr_ref rfl rfl rfl fo_25_2 ?_
    first
      | refine sl_load_rp1 rfl rfl rfl ag_2 rfl ?_
      | refine sl_load_blk1 rfl rfl rfl ag_2 (by repeat constructor) rfl ?_
    refine sl_min rfl rfl rfl rfl ?_
    refine sl_callp rfl rfl cal_25 (rof_ok (if (nrm l[k]).lo > acc.lo then (nrm l[k]).lo else acc.lo) (if (nrm l[k]).hi < acc.hi then (nrm l[k]).hi else acc.hi)) ?_ ?_
    · repeat constructor
    refine sl_stp rfl rfl rfl rfl sz_25 rfl rfl rfl (by repeat constructor) (Nat.le_of_ble_eq_true rfl) ?_
    refine sl_nil ?_
    refine sl_region ?_
    refine sl_mv rfl rfl rfl ?_
    first
      | refine sl_inc rfl rfl rfl rfl (by omega) ?_
      | refine sl_add rfl rfl rfl rfl (by constructor <;> omega) ?_
      | refine sl_bin rfl rfl rfl rfl rfl ?_
    refine sl_as rfl rfl rfl ?_
    refine sl_nil ?_
    refine ⟨_, by omega, _, _, ?_, ?_, k + 1, ofI (if (nrm l[k]).lo > acc.lo then (nrm l[k]).lo else acc.lo) (if (nrm l[k]).hi < acc.hi then (nrm l[k]).hi else acc.hi), rfl, rfl, rfl, rfl, (by omega), (by rw [meetL_snoc hk, ← hacc, ite_min, ite_max]; unfold mt; rw [if_neg (by rintro (h | h); exact absurd h (by simpa using h1); exact absurd h (by simpa using h2))])⟩
    · exact ⟨rfl, by repeat constructor⟩
    · repeat constructor
  have hk : k = l.length := by have := of_decide_eq_false hk; simp only [List.length_map] at this; omega
  refine sw_exit ?_
  refine sw_seq ?_
  refine sl_region ?_
  first
    | refine sl_load_rpn rfl rfl rfl ag_25 sz_25 (Nat.le_of_ble_eq_true rfl) ?_
    | refine sl_load_blkn rfl rfl rfl ag_25 sz_25 (by repeat constructor) (Nat.le_of_ble_eq_true rfl) ?_
    | refine sl_load_ref rfl rfl rfl ag_25 sz_25 (Nat.le_of_ble_eq_true rfl) ?_
  refine sl_stp rfl rfl rfl rfl sz_25 rfl rfl rfl (by repeat constructor) (Nat.le_of_ble_eq_true rfl) ?_
  refine sl_nil ?_
  refine sw_ret ⟨rfl, _, _, ResD.weak (res_celln rfl rfl ag_25 sz_25 (by repeat constructor) (Nat.le_of_ble_eq_true rfl)) (Weak.toV rfl ), ?_, by rw [hacc, hk, List.take_length]; exact ⟨rfl, rfl⟩⟩
  repeat constructor

end Go.Proofs.YtipacoopapjdpaaDoor

/- Walks: printed by a program of this session out of its script IvalC. -/
namespace Go.Proofs.YtipacoopapjdpaaDoor
set_option linter.unusedVariables false
set_option linter.unusedSimpArgs false
set_option maxRecDepth 4000
set_option maxHeartbeats 4000000
open Go Go.RowKit SL


theorem widen_no {a b : Ivl} (h : (!(nrm a).some) = true) : widenI a b = nrm b := by unfold widenI wd; rw [if_pos (by simpa using h)]
theorem widen_nob {a b : Ivl} (h : (!(nrm a).some) = false) (h2 : (!(nrm b).some) = true) : widenI a b = nrm a := by unfold widenI wd; rw [if_neg (by simpa using h), if_pos (by simpa using h2)]
theorem widen_is {a b : Ivl} (h : (!(nrm a).some) = false) (h2 : (!(nrm b).some) = false) : widenI a b = ⟨true, if (nrm a).lo ≤ (nrm b).lo then (nrm a).lo else -9223372036854775808, if (nrm b).hi ≤ (nrm a).hi then (nrm a).hi else 9223372036854775807⟩ := by
  unfold widenI wd; rw [if_neg (by simpa using h), if_neg (by simpa using h2)]
theorem nrm_true {a : Ivl} (h : (!(nrm a).some) = false) : (nrm a).some = true := by simpa using h

theorem dec_part {k : Nat} (h : k < 10) : (([48, 49, 50, 51, 52, 53, 54, 55, 56, 57] : List UInt8).drop k).take (k + 1 - k) = Lib.itoa (k : Int) := by
  rw [itoa_one (by omega) (by omega)]
  have : k = 0 ∨ k = 1 ∨ k = 2 ∨ k = 3 ∨ k = 4 ∨ k = 5 ∨ k = 6 ∨ k = 7 ∨ k = 8 ∨ k = 9 := by omega
  rcases this with rfl | rfl | rfl | rfl | rfl | rfl | rfl | rfl | rfl | rfl <;> rfl

theorem iwiden_ok (a b : Ivl) (σ : List Chunk) : FSpec Tryd.prog 10 [.val (ivlV a), .val (ivlV b)] σ (fun d σ' => d = .val (ivlV (widenI a b)) ∧ σ' = σ) := by
  refine spec_of_sw Tryd.func10 rfl ?_
  refine sw_seq ?_
  refine sl_region ?_
  refine sl_bx rfl rfl rfl rfl (fun b2 => ?_)
  refine sl_bx rfl rfl rfl rfl (fun b3 => ?_)
  refine sl_alloc rfl rfl zd_25 (fun b4 => ?_)
  refine sl_nil ?_
  refine sw_seq ?_
  refine sa_start [] mixed ?_
  apply sa_conf [.p 0 (some 6) [] _, .p 1 (some 7) [0] _, .p 2 (some 8) [] _] (I := [(0, []), (1, [0]), (2, [])]) (nT := 3) rfl rfl rfl (by kernel_rfl) .nil
  · refine (.cons ?_ (.cons ?_ (.cons ?_ .nil)))
    · apply StepOk.p
      iterate 3 rfl
      intro β σX hσX
      first
        | refine sl_load_rpn rfl rfl rfl ag_25 sz_25 (Nat.le_of_ble_eq_true rfl) ?_
        | refine sl_load_blkn rfl rfl rfl ag_25 sz_25 (hσX _ (by repeat constructor)) (Nat.le_of_ble_eq_true rfl) ?_
        | refine sl_load_ref rfl rfl rfl ag_25 sz_25 (Nat.le_of_ble_eq_true rfl) ?_
      exact sl_nil ⟨rfl, rfl, rfl, rfl⟩
    · apply StepOk.p
      iterate 3 rfl
      intro β σX hσX
      show SL _ _ _ _ (sput _ (some 6) _) _ _
      refine sl_callp rfl rfl cal_27 (plain_ok a) ?_ ?_
      · repeat constructor
      exact sl_nil ⟨rfl, rfl, rfl, rfl⟩
    · apply StepOk.p
      iterate 3 rfl
      intro β σX hσX
      first
        | refine sl_load_rpn rfl rfl rfl ag_25 sz_25 (Nat.le_of_ble_eq_true rfl) ?_
        | refine sl_load_blkn rfl rfl rfl ag_25 sz_25 (hσX _ (by repeat constructor)) (Nat.le_of_ble_eq_true rfl) ?_
        | refine sl_load_ref rfl rfl rfl ag_25 sz_25 (Nat.le_of_ble_eq_true rfl) ?_
      exact sl_nil ⟨rfl, rfl, rfl, rfl⟩
  refine contT_p (contT_p (contT_p (contT_nil ?_)))
  refine sa_one 3 (by kernel_rfl) rfl ?_
  refine sl_callp rfl rfl cal_27 (plain_ok b) ?_ ?_
  · repeat constructor
  refine sl_nil ⟨.nil, ?_⟩
  refine sa_one 4 (by kernel_rfl) rfl ?_
  refine sl_stp rfl rfl rfl rfl sz_25 rfl rfl rfl (by repeat constructor) (Nat.le_of_ble_eq_true rfl) ?_
  refine sl_nil ⟨.nil, ?_⟩
  refine sa_one 5 (by kernel_rfl) rfl ?_
  refine sl_stp rfl rfl rfl rfl sz_25 rfl rfl rfl (by repeat constructor) (Nat.le_of_ble_eq_true rfl) ?_
  refine sl_nil ⟨.nil, ?_⟩
  refine sa_done (by kernel_rfl) ?_
  refine sw_seq ?_
  refine sw_block ?_
  refine sw_seq ?_
  refine sl_region ?_
  first
    | refine sl_fieldAddr_ptr rfl rfl rfl fo_25_0 ?_
    | refine sl_fieldAddr_rp rfl rfl rfl fo_25_0 ?_
    | refine sl_fieldAddr_ref rfl rfl rfl fo_25_0 ?_
  first
    | refine sl_load_rp1 rfl rfl rfl ag_4 rfl ?_
    | refine sl_load_blk1 rfl rfl rfl ag_4 (by repeat constructor) rfl ?_
  refine sl_not rfl rfl rfl ?_
  refine sl_as rfl rfl rfl ?_
  refine sl_nil ?_
  refine sw_cond rfl (fun h1 => ?_) (fun h1 => ?_)
  · refine sw_seq ?_
    refine sl_region ?_
    first
      | refine sl_load_rpn rfl rfl rfl ag_25 sz_25 (Nat.le_of_ble_eq_true rfl) ?_
      | refine sl_load_blkn rfl rfl rfl ag_25 sz_25 (by repeat constructor) (Nat.le_of_ble_eq_true rfl) ?_
      | refine sl_load_ref rfl rfl rfl ag_25 sz_25 (Nat.le_of_ble_eq_true rfl) ?_
    refine sl_stp rfl rfl rfl rfl sz_25 rfl rfl rfl (by repeat constructor) (Nat.le_of_ble_eq_true rfl) ?_
    refine sl_nil ?_
    refine sw_ret ⟨rfl, _, _, ResD.weak (res_celln rfl rfl ag_25 sz_25 (by repeat constructor) (Nat.le_of_ble_eq_true rfl)) (Weak.toV rfl ), ?_, by rw [widen_no h1]; exact ⟨rfl, rfl⟩⟩
    repeat constructor
  refine sw_seq ?_
  refine sl_region ?_
  first
    | refine sl_fieldAddr_ptr rfl rfl rfl fo_25_0 ?_
    | refine sl_fieldAddr_rp rfl rfl rfl fo_25_0 ?_
    | refine sl_fieldAddr_ref rfl rfl rfl fo_25_0 ?_
  first
    | refine sl_load_rp1 rfl rfl rfl ag_4 rfl ?_
    | refine sl_load_blk1 rfl rfl rfl ag_4 (by repeat constructor) rfl ?_
  refine sl_not rfl rfl rfl ?_
  refine sl_as rfl rfl rfl ?_
  refine sl_nil ?_
  refine sw_cond rfl (fun h2 => ?_) (fun h2 => ?_)
  · refine sw_seq ?_
    refine sl_region ?_
    first
      | refine sl_load_rpn rfl rfl rfl ag_25 sz_25 (Nat.le_of_ble_eq_true rfl) ?_
      | refine sl_load_blkn rfl rfl rfl ag_25 sz_25 (by repeat constructor) (Nat.le_of_ble_eq_true rfl) ?_
      | refine sl_load_ref rfl rfl rfl ag_25 sz_25 (Nat.le_of_ble_eq_true rfl) ?_
    refine sl_stp rfl rfl rfl rfl sz_25 rfl rfl rfl (by repeat constructor) (Nat.le_of_ble_eq_true rfl) ?_
    refine sl_nil ?_
    refine sw_ret ⟨rfl, _, _, ResD.weak (res_celln rfl rfl ag_25 sz_25 (by repeat constructor) (Nat.le_of_ble_eq_true rfl)) (Weak.toV rfl ), ?_, by rw [widen_nob h1 h2]; exact ⟨rfl, rfl⟩⟩
    repeat constructor
  refine sw_skip ?_
  refine sw_seq ?_
  refine sl_region ?_
  refine sl_callp rfl rfl cal_15 (itop_ok) ?_ ?_
  · repeat constructor
  refine sl_alloc rfl rfl zd_25 (fun b5 => ?_)
  refine sl_stp rfl rfl rfl rfl sz_25 rfl rfl rfl (by repeat constructor) (Nat.le_of_ble_eq_true rfl) ?_
  refine sl_nil ?_
  refine sw_seq ?_
  refine sw_seq ?_
  refine sl_region ?_
  first
    | refine sl_fieldAddr_ptr rfl rfl rfl fo_25_1 ?_
    | refine sl_fieldAddr_rp rfl rfl rfl fo_25_1 ?_
    | refine sl_fieldAddr_ref rfl rfl rfl fo_25_1 ?_
  first
    | refine sl_load_rp1 rfl rfl rfl ag_2 rfl ?_
    | refine sl_load_blk1 rfl rfl rfl ag_2 (by repeat constructor) rfl ?_
  first
    | refine sl_fieldAddr_ptr rfl rfl rfl fo_25_1 ?_
    | refine sl_fieldAddr_rp rfl rfl rfl fo_25_1 ?_
    | refine sl_fieldAddr_ref rfl rfl rfl fo_25_1 ?_
  first
    | refine sl_load_rp1 rfl rfl rfl ag_2 rfl ?_
    | refine sl_load_blk1 rfl rfl rfl ag_2 (by repeat constructor) rfl ?_
  refine sl_bin rfl rfl rfl rfl rfl ?_
  refine sl_nil ?_
  refine sw_cond rfl (fun h3 => ?_) (fun h3 => ?_)
  · refine sl_region ?_
    first
      | refine sl_fieldAddr_ptr rfl rfl rfl fo_25_1 ?_
      | refine sl_fieldAddr_rp rfl rfl rfl fo_25_1 ?_
      | refine sl_fieldAddr_ref rfl rfl rfl fo_25_1 ?_
    first
      | refine sl_load_rp1 rfl rfl rfl ag_2 rfl ?_
      | refine sl_load_blk1 rfl rfl rfl ag_2 (by repeat constructor) rfl ?_
    first
      | refine sl_fieldAddr_ptr rfl rfl rfl fo_25_1 ?_
      | refine sl_fieldAddr_rp rfl rfl rfl fo_25_1 ?_
      | refine sl_fieldAddr_ref rfl rfl rfl fo_25_1 ?_
    refine sl_stp rfl rfl rfl rfl sz_2 rfl rfl rfl (by repeat constructor) (Nat.le_of_ble_eq_true rfl) ?_
    refine sl_nil ?_
    refine sw_seq ?_
    refine sw_seq ?_
    refine sl_region ?_
    first
      | refine sl_fieldAddr_ptr rfl rfl rfl fo_25_2 ?_
      | refine sl_fieldAddr_rp rfl rfl rfl fo_25_2 ?_
      | refine sl_fieldAddr_ref rfl rfl rfl fo_25_2 ?_
    first
      | refine sl_load_rp1 rfl rfl rfl ag_2 rfl ?_
      | refine sl_load_blk1 rfl rfl rfl ag_2 (by repeat constructor) rfl ?_
    first
      | refine sl_fieldAddr_ptr rfl rfl rfl fo_25_2 ?_
      | refine sl_fieldAddr_rp rfl rfl rfl fo_25_2 ?_
      | refine sl_fieldAddr_ref rfl rfl rfl fo_25_2 ?_
    first
      | refine sl_load_rp1 rfl rfl rfl ag_2 rfl ?_
      | refine sl_load_blk1 rfl rfl rfl ag_2 (by repeat constructor) rfl ?_
    refine sl_bin rfl rfl rfl rfl rfl ?_
    refine sl_nil ?_
    refine sw_cond rfl (fun h4 => ?_) (fun h4 => ?_)
    · refine sl_region ?_
      first
        | refine sl_fieldAddr_ptr rfl rfl rfl fo_25_2 ?_
        | refine sl_fieldAddr_rp rfl rfl rfl fo_25_2 ?_
        | refine sl_fieldAddr_ref rfl rfl rfl fo_25_2 ?_
      first
        | refine sl_load_rp1 rfl rfl rfl ag_2 rfl ?_
        | refine sl_load_blk1 rfl rfl rfl ag_2 (by repeat constructor) rfl ?_
      first
        | refine sl_fieldAddr_ptr rfl rfl rfl fo_25_2 ?_
        | refine sl_fieldAddr_rp rfl rfl rfl fo_25_2 ?_
        | refine sl_fieldAddr_ref rfl rfl rfl fo_25_2 ?_
      refine sl_stp rfl rfl rfl rfl sz_2 rfl rfl rfl (by repeat constructor) (Nat.le_of_ble_eq_true rfl) ?_
      refine sl_nil ?_
      refine sw_seq ?_
      refine sl_region ?_
      first
        | refine sl_load_rpn rfl rfl rfl ag_25 sz_25 (Nat.le_of_ble_eq_true rfl) ?_
        | refine sl_load_blkn rfl rfl rfl ag_25 sz_25 (by repeat constructor) (Nat.le_of_ble_eq_true rfl) ?_
        | refine sl_load_ref rfl rfl rfl ag_25 sz_25 (Nat.le_of_ble_eq_true rfl) ?_
      refine sl_stp rfl rfl rfl rfl sz_25 rfl rfl rfl (by repeat constructor) (Nat.le_of_ble_eq_true rfl) ?_
      refine sl_nil ?_
      refine sw_ret ⟨rfl, _, _, ResD.weak (res_celln rfl rfl ag_25 sz_25 (by repeat constructor) (Nat.le_of_ble_eq_true rfl)) (Weak.toV rfl ), ?_, by rw [widen_is h1 h2, if_pos (of_decide_eq_true h3 : (nrm a).lo ≤ (nrm b).lo), if_pos (of_decide_eq_true h4)]; exact ⟨rfl, rfl⟩⟩
      repeat constructor
    refine sw_skip ?_
    refine sw_seq ?_
    refine sl_region ?_
    first
      | refine sl_load_rpn rfl rfl rfl ag_25 sz_25 (Nat.le_of_ble_eq_true rfl) ?_
      | refine sl_load_blkn rfl rfl rfl ag_25 sz_25 (by repeat constructor) (Nat.le_of_ble_eq_true rfl) ?_
      | refine sl_load_ref rfl rfl rfl ag_25 sz_25 (Nat.le_of_ble_eq_true rfl) ?_
    refine sl_stp rfl rfl rfl rfl sz_25 rfl rfl rfl (by repeat constructor) (Nat.le_of_ble_eq_true rfl) ?_
    refine sl_nil ?_
    refine sw_ret ⟨rfl, _, _, ResD.weak (res_celln rfl rfl ag_25 sz_25 (by repeat constructor) (Nat.le_of_ble_eq_true rfl)) (Weak.toV rfl ), ?_, by rw [widen_is h1 h2, if_pos (of_decide_eq_true h3 : (nrm a).lo ≤ (nrm b).lo), if_neg (of_decide_eq_false h4)]; exact ⟨rfl, rfl⟩⟩
    repeat constructor
  refine sw_skip ?_
  refine sw_seq ?_
  refine sw_seq ?_
  refine sl_region ?_
  first
    | refine sl_fieldAddr_ptr rfl rfl rfl fo_25_2 ?_
    | refine sl_fieldAddr_rp rfl rfl rfl fo_25_2 ?_
    | refine sl_fieldAddr_ref rfl rfl rfl fo_25_2 ?_
  first
    | refine sl_load_rp1 rfl rfl rfl ag_2 rfl ?_
    | refine sl_load_blk1 rfl rfl rfl ag_2 (by repeat constructor) rfl ?_
  first
    | refine sl_fieldAddr_ptr rfl rfl rfl fo_25_2 ?_
    | refine sl_fieldAddr_rp rfl rfl rfl fo_25_2 ?_
    | refine sl_fieldAddr_ref rfl rfl rfl fo_25_2 ?_
  first
    | refine sl_load_rp1 rfl rfl rfl ag_2 rfl ?_
    | refine sl_load_blk1 rfl rfl rfl ag_2 (by repeat constructor) rfl ?_
  refine sl_bin rfl rfl rfl rfl rfl ?_
  refine sl_nil ?_
  refine sw_cond rfl (fun h4 => ?_) (fun h4 => ?_)
  · refine sl_region ?_
    first
      | refine sl_fieldAddr_ptr rfl rfl rfl fo_25_2 ?_
      | refine sl_fieldAddr_rp rfl rfl rfl fo_25_2 ?_
      | refine sl_fieldAddr_ref rfl rfl rfl fo_25_2 ?_
    first
      | refine sl_load_rp1 rfl rfl rfl ag_2 rfl ?_
      | refine sl_load_blk1 rfl rfl rfl ag_2 (by repeat constructor) rfl ?_
    first
      | refine sl_fieldAddr_ptr rfl rfl rfl fo_25_2 ?_
      | refine sl_fieldAddr_rp rfl rfl rfl fo_25_2 ?_
      | refine sl_fieldAddr_ref rfl rfl rfl fo_25_2 ?_
    refine sl_stp rfl rfl rfl rfl sz_2 rfl rfl rfl (by repeat constructor) (Nat.le_of_ble_eq_true rfl) ?_
    refine sl_nil ?_
    refine sw_seq ?_
    refine sl_region ?_
    first
      | refine sl_load_rpn rfl rfl rfl ag_25 sz_25 (Nat.le_of_ble_eq_true rfl) ?_
      | refine sl_load_blkn rfl rfl rfl ag_25 sz_25 (by repeat constructor) (Nat.le_of_ble_eq_true rfl) ?_
      | refine sl_load_ref rfl rfl rfl ag_25 sz_25 (Nat.le_of_ble_eq_true rfl) ?_
    refine sl_stp rfl rfl rfl rfl sz_25 rfl rfl rfl (by repeat constructor) (Nat.le_of_ble_eq_true rfl) ?_
    refine sl_nil ?_
    refine sw_ret ⟨rfl, _, _, ResD.weak (res_celln rfl rfl ag_25 sz_25 (by repeat constructor) (Nat.le_of_ble_eq_true rfl)) (Weak.toV rfl ), ?_, by rw [widen_is h1 h2, if_neg (of_decide_eq_false h3 : ¬ (nrm a).lo ≤ (nrm b).lo), if_pos (of_decide_eq_true h4)]; exact ⟨rfl, rfl⟩⟩
    repeat constructor
  refine sw_skip ?_
  refine sw_seq ?_
  refine sl_region ?_
  first
    | refine sl_load_rpn rfl rfl rfl ag_25 sz_25 (Nat.le_of_ble_eq_true rfl) ?_
    | refine sl_load_blkn rfl rfl rfl ag_25 sz_25 (by repeat constructor) (Nat.le_of_ble_eq_true rfl) ?_
    | refine sl_load_ref rfl rfl rfl ag_25 sz_25 (Nat.le_of_ble_eq_true rfl) ?_
  refine sl_stp rfl rfl rfl rfl sz_25 rfl rfl rfl (by repeat constructor) (Nat.le_of_ble_eq_true rfl) ?_
  refine sl_nil ?_
  refine sw_ret ⟨rfl, _, _, ResD.weak (res_celln rfl rfl ag_25 sz_25 (by repeat constructor) (Nat.le_of_ble_eq_true rfl)) (Weak.toV rfl ), ?_, by rw [widen_is h1 h2, if_neg (of_decide_eq_false h3 : ¬ (nrm a).lo ≤ (nrm b).lo), if_neg (of_decide_eq_false h4)]; exact ⟨rfl, rfl⟩⟩
  repeat constructor

theorem rwiden_ok (a b : Ivl) (σ : List Chunk) : FSpec Tryd.prog 21 [.val (ivlV a), .val (ivlV b)] σ (fun d σ' => d = .val (ivlV (widenI a b)) ∧ σ' = σ) := by
  refine spec_of_sw Tryd.func21 rfl ?_
  refine sw_seq ?_
  refine sl_region ?_
  refine sl_bx rfl rfl rfl rfl (fun b2 => ?_)
  refine sl_bx rfl rfl rfl rfl (fun b3 => ?_)
  refine sl_alloc rfl rfl zd_25 (fun b4 => ?_)
  refine sl_nil ?_
  refine sw_seq ?_
  refine sa_start [] mixed ?_
  apply sa_conf [.p 0 (some 5) [] _, .p 1 (some 6) [0] _, .p 2 (some 7) [] _] (I := [(0, []), (1, [0]), (2, [])]) (nT := 3) rfl rfl rfl (by kernel_rfl) .nil
  · refine (.cons ?_ (.cons ?_ (.cons ?_ .nil)))
    · apply StepOk.p
      iterate 3 rfl
      intro β σX hσX
      first
        | refine sl_load_rpn rfl rfl rfl ag_25 sz_25 (Nat.le_of_ble_eq_true rfl) ?_
        | refine sl_load_blkn rfl rfl rfl ag_25 sz_25 (hσX _ (by repeat constructor)) (Nat.le_of_ble_eq_true rfl) ?_
        | refine sl_load_ref rfl rfl rfl ag_25 sz_25 (Nat.le_of_ble_eq_true rfl) ?_
      exact sl_nil ⟨rfl, rfl, rfl, rfl⟩
    · apply StepOk.p
      iterate 3 rfl
      intro β σX hσX
      show SL _ _ _ _ (sput _ (some 5) _) _ _
      refine sl_callp rfl rfl cal_29 (norm_ok a) ?_ ?_
      · repeat constructor
      exact sl_nil ⟨rfl, rfl, rfl, rfl⟩
    · apply StepOk.p
      iterate 3 rfl
      intro β σX hσX
      first
        | refine sl_load_rpn rfl rfl rfl ag_25 sz_25 (Nat.le_of_ble_eq_true rfl) ?_
        | refine sl_load_blkn rfl rfl rfl ag_25 sz_25 (hσX _ (by repeat constructor)) (Nat.le_of_ble_eq_true rfl) ?_
        | refine sl_load_ref rfl rfl rfl ag_25 sz_25 (Nat.le_of_ble_eq_true rfl) ?_
      exact sl_nil ⟨rfl, rfl, rfl, rfl⟩
  refine contT_p (contT_p (contT_p (contT_nil ?_)))
  refine sa_one 3 (by kernel_rfl) rfl ?_
  refine sl_callp rfl rfl cal_29 (norm_ok b) ?_ ?_
  · repeat constructor
  refine sl_nil ⟨.nil, ?_⟩
  refine sa_one 4 (by kernel_rfl) rfl ?_
  refine sl_stp rfl rfl rfl rfl sz_25 rfl rfl rfl (by repeat constructor) (Nat.le_of_ble_eq_true rfl) ?_
  refine sl_nil ⟨.nil, ?_⟩
  refine sa_one 5 (by kernel_rfl) rfl ?_
  refine sl_stp rfl rfl rfl rfl sz_25 rfl rfl rfl (by repeat constructor) (Nat.le_of_ble_eq_true rfl) ?_
  refine sl_nil ⟨.nil, ?_⟩
  refine sa_done (by kernel_rfl) ?_
  refine sw_seq ?_
  refine sw_seq ?_
  refine sl_region ?_
  first
    | refine sl_fieldAddr_ptr rfl rfl rfl fo_25_0 ?_
    | refine sl_fieldAddr_rp rfl rfl rfl fo_25_0 ?_
    | refine sl_fieldAddr_ref rfl rfl rfl fo_25_0 ?_
  first
    | refine sl_load_rp1 rfl rfl rfl ag_4 rfl ?_
    | refine sl_load_blk1 rfl rfl rfl ag_4 (by repeat constructor) rfl ?_
  refine sl_not rfl rfl rfl ?_
  refine sl_nil ?_
  refine sw_cond rfl (fun h1 => ?_) (fun h1 => ?_)
  · refine sw_seq ?_
    refine sl_region ?_
    first
      | refine sl_load_rpn rfl rfl rfl ag_25 sz_25 (Nat.le_of_ble_eq_true rfl) ?_
      | refine sl_load_blkn rfl rfl rfl ag_25 sz_25 (by repeat constructor) (Nat.le_of_ble_eq_true rfl) ?_
      | refine sl_load_ref rfl rfl rfl ag_25 sz_25 (Nat.le_of_ble_eq_true rfl) ?_
    refine sl_stp rfl rfl rfl rfl sz_25 rfl rfl rfl (by repeat constructor) (Nat.le_of_ble_eq_true rfl) ?_
    refine sl_nil ?_
    refine sw_ret ⟨rfl, _, _, ResD.weak (res_celln rfl rfl ag_25 sz_25 (by repeat constructor) (Nat.le_of_ble_eq_true rfl)) (Weak.toV rfl ), ?_, by rw [widen_no h1]; exact ⟨rfl, rfl⟩⟩
    repeat constructor
  refine sw_skip ?_
  refine sw_seq ?_
  refine sw_seq ?_
  refine sl_region ?_
  first
    | refine sl_fieldAddr_ptr rfl rfl rfl fo_25_0 ?_
    | refine sl_fieldAddr_rp rfl rfl rfl fo_25_0 ?_
    | refine sl_fieldAddr_ref rfl rfl rfl fo_25_0 ?_
  first
    | refine sl_load_rp1 rfl rfl rfl ag_4 rfl ?_
    | refine sl_load_blk1 rfl rfl rfl ag_4 (by repeat constructor) rfl ?_
  refine sl_not rfl rfl rfl ?_
  refine sl_nil ?_
  refine sw_cond rfl (fun h2 => ?_) (fun h2 => ?_)
  · refine sw_seq ?_
    refine sl_region ?_
    first
      | refine sl_load_rpn rfl rfl rfl ag_25 sz_25 (Nat.le_of_ble_eq_true rfl) ?_
      | refine sl_load_blkn rfl rfl rfl ag_25 sz_25 (by repeat constructor) (Nat.le_of_ble_eq_true rfl) ?_
      | refine sl_load_ref rfl rfl rfl ag_25 sz_25 (Nat.le_of_ble_eq_true rfl) ?_
    refine sl_stp rfl rfl rfl rfl sz_25 rfl rfl rfl (by repeat constructor) (Nat.le_of_ble_eq_true rfl) ?_
    refine sl_nil ?_
    refine sw_ret ⟨rfl, _, _, ResD.weak (res_celln rfl rfl ag_25 sz_25 (by repeat constructor) (Nat.le_of_ble_eq_true rfl)) (Weak.toV rfl ), ?_, by rw [widen_nob h1 h2]; exact ⟨rfl, rfl⟩⟩
    repeat constructor
  refine sw_skip ?_
  refine sw_seq ?_
  refine sw_seq ?_
  refine sl_region ?_
  first
    | refine sl_fieldAddr_ptr rfl rfl rfl fo_25_1 ?_
    | refine sl_fieldAddr_rp rfl rfl rfl fo_25_1 ?_
    | refine sl_fieldAddr_ref rfl rfl rfl fo_25_1 ?_
  first
    | refine sl_load_rp1 rfl rfl rfl ag_2 rfl ?_
    | refine sl_load_blk1 rfl rfl rfl ag_2 (by repeat constructor) rfl ?_
  first
    | refine sl_fieldAddr_ptr rfl rfl rfl fo_25_1 ?_
    | refine sl_fieldAddr_rp rfl rfl rfl fo_25_1 ?_
    | refine sl_fieldAddr_ref rfl rfl rfl fo_25_1 ?_
  first
    | refine sl_load_rp1 rfl rfl rfl ag_2 rfl ?_
    | refine sl_load_blk1 rfl rfl rfl ag_2 (by repeat constructor) rfl ?_
  refine sl_bin rfl rfl rfl rfl rfl ?_
  refine sl_nil ?_
  refine sw_cond rfl (fun h3 => ?_) (fun h3 => ?_)
  · refine sl_region ?_
    first
      | refine sl_fieldAddr_ptr rfl rfl rfl fo_25_1 ?_
      | refine sl_fieldAddr_rp rfl rfl rfl fo_25_1 ?_
      | refine sl_fieldAddr_ref rfl rfl rfl fo_25_1 ?_
    refine sl_stp rfl rfl rfl rfl sz_2 rfl rfl rfl (by repeat constructor) (Nat.le_of_ble_eq_true rfl) ?_
    refine sl_nil ?_
    refine sw_seq ?_
    refine sw_seq ?_
    refine sl_region ?_
    first
      | refine sl_fieldAddr_ptr rfl rfl rfl fo_25_2 ?_
      | refine sl_fieldAddr_rp rfl rfl rfl fo_25_2 ?_
      | refine sl_fieldAddr_ref rfl rfl rfl fo_25_2 ?_
    first
      | refine sl_load_rp1 rfl rfl rfl ag_2 rfl ?_
      | refine sl_load_blk1 rfl rfl rfl ag_2 (by repeat constructor) rfl ?_
    first
      | refine sl_fieldAddr_ptr rfl rfl rfl fo_25_2 ?_
      | refine sl_fieldAddr_rp rfl rfl rfl fo_25_2 ?_
      | refine sl_fieldAddr_ref rfl rfl rfl fo_25_2 ?_
    first
      | refine sl_load_rp1 rfl rfl rfl ag_2 rfl ?_
      | refine sl_load_blk1 rfl rfl rfl ag_2 (by repeat constructor) rfl ?_
    refine sl_bin rfl rfl rfl rfl rfl ?_
    refine sl_nil ?_
    refine sw_cond rfl (fun h4 => ?_) (fun h4 => ?_)
    · refine sl_region ?_
      first
        | refine sl_fieldAddr_ptr rfl rfl rfl fo_25_2 ?_
        | refine sl_fieldAddr_rp rfl rfl rfl fo_25_2 ?_
        | refine sl_fieldAddr_ref rfl rfl rfl fo_25_2 ?_
      refine sl_stp rfl rfl rfl rfl sz_2 rfl rfl rfl (by repeat constructor) (Nat.le_of_ble_eq_true rfl) ?_
      refine sl_nil ?_
      refine sw_seq ?_
      refine sl_region ?_
      first
        | refine sl_load_rpn rfl rfl rfl ag_25 sz_25 (Nat.le_of_ble_eq_true rfl) ?_
        | refine sl_load_blkn rfl rfl rfl ag_25 sz_25 (by repeat constructor) (Nat.le_of_ble_eq_true rfl) ?_
        | refine sl_load_ref rfl rfl rfl ag_25 sz_25 (Nat.le_of_ble_eq_true rfl) ?_
      refine sl_stp rfl rfl rfl rfl sz_25 rfl rfl rfl (by repeat constructor) (Nat.le_of_ble_eq_true rfl) ?_
      refine sl_nil ?_
      refine sw_ret ⟨rfl, _, _, ResD.weak (res_celln rfl rfl ag_25 sz_25 (by repeat constructor) (Nat.le_of_ble_eq_true rfl)) (Weak.toV rfl ), ?_, by rw [widen_is h1 h2, if_neg (by have := of_decide_eq_true h3; omega), if_neg (by have := of_decide_eq_true h4; omega), ← nrm_true h1]; exact ⟨rfl, rfl⟩⟩
      repeat constructor
    refine sw_skip ?_
    refine sw_seq ?_
    refine sl_region ?_
    first
      | refine sl_load_rpn rfl rfl rfl ag_25 sz_25 (Nat.le_of_ble_eq_true rfl) ?_
      | refine sl_load_blkn rfl rfl rfl ag_25 sz_25 (by repeat constructor) (Nat.le_of_ble_eq_true rfl) ?_
      | refine sl_load_ref rfl rfl rfl ag_25 sz_25 (Nat.le_of_ble_eq_true rfl) ?_
    refine sl_stp rfl rfl rfl rfl sz_25 rfl rfl rfl (by repeat constructor) (Nat.le_of_ble_eq_true rfl) ?_
    refine sl_nil ?_
    refine sw_ret ⟨rfl, _, _, ResD.weak (res_celln rfl rfl ag_25 sz_25 (by repeat constructor) (Nat.le_of_ble_eq_true rfl)) (Weak.toV rfl ), ?_, by rw [widen_is h1 h2, if_neg (by have := of_decide_eq_true h3; omega), if_pos (by have := of_decide_eq_false h4; omega), ← nrm_true h1]; exact ⟨rfl, rfl⟩⟩
    repeat constructor
  refine sw_skip ?_
  refine sw_seq ?_
  refine sw_seq ?_
  refine sl_region ?_
  first
    | refine sl_fieldAddr_ptr rfl rfl rfl fo_25_2 ?_
    | refine sl_fieldAddr_rp rfl rfl rfl fo_25_2 ?_
    | refine sl_fieldAddr_ref rfl rfl rfl fo_25_2 ?_
  first
    | refine sl_load_rp1 rfl rfl rfl ag_2 rfl ?_
    | refine sl_load_blk1 rfl rfl rfl ag_2 (by repeat constructor) rfl ?_
  first
    | refine sl_fieldAddr_ptr rfl rfl rfl fo_25_2 ?_
    | refine sl_fieldAddr_rp rfl rfl rfl fo_25_2 ?_
    | refine sl_fieldAddr_ref rfl rfl rfl fo_25_2 ?_
  first
    | refine sl_load_rp1 rfl rfl rfl ag_2 rfl ?_
    | refine sl_load_blk1 rfl rfl rfl ag_2 (by repeat constructor) rfl ?_
  refine sl_bin rfl rfl rfl rfl rfl ?_
  refine sl_nil ?_
  refine sw_cond rfl (fun h4 => ?_) (fun h4 => ?_)
  · refine sl_region ?_
    first
      | refine sl_fieldAddr_ptr rfl rfl rfl fo_25_2 ?_
      | refine sl_fieldAddr_rp rfl rfl rfl fo_25_2 ?_
      | refine sl_fieldAddr_ref rfl rfl rfl fo_25_2 ?_
    refine sl_stp rfl rfl rfl rfl sz_2 rfl rfl rfl (by repeat constructor) (Nat.le_of_ble_eq_true rfl) ?_
    refine sl_nil ?_
    refine sw_seq ?_
    refine sl_region ?_
    first
      | refine sl_load_rpn rfl rfl rfl ag_25 sz_25 (Nat.le_of_ble_eq_true rfl) ?_
      | refine sl_load_blkn rfl rfl rfl ag_25 sz_25 (by repeat constructor) (Nat.le_of_ble_eq_true rfl) ?_
      | refine sl_load_ref rfl rfl rfl ag_25 sz_25 (Nat.le_of_ble_eq_true rfl) ?_
    refine sl_stp rfl rfl rfl rfl sz_25 rfl rfl rfl (by repeat constructor) (Nat.le_of_ble_eq_true rfl) ?_
    refine sl_nil ?_
    refine sw_ret ⟨rfl, _, _, ResD.weak (res_celln rfl rfl ag_25 sz_25 (by repeat constructor) (Nat.le_of_ble_eq_true rfl)) (Weak.toV rfl ), ?_, by rw [widen_is h1 h2, if_pos (by have := of_decide_eq_false h3; omega), if_neg (by have := of_decide_eq_true h4; omega), ← nrm_true h1]; exact ⟨rfl, rfl⟩⟩
    repeat constructor
  refine sw_skip ?_
  refine sw_seq ?_
  refine sl_region ?_
  first
    | refine sl_load_rpn rfl rfl rfl ag_25 sz_25 (Nat.le_of_ble_eq_true rfl) ?_
    | refine sl_load_blkn rfl rfl rfl ag_25 sz_25 (by repeat constructor) (Nat.le_of_ble_eq_true rfl) ?_
    | refine sl_load_ref rfl rfl rfl ag_25 sz_25 (Nat.le_of_ble_eq_true rfl) ?_
  refine sl_stp rfl rfl rfl rfl sz_25 rfl rfl rfl (by repeat constructor) (Nat.le_of_ble_eq_true rfl) ?_
  refine sl_nil ?_
  refine sw_ret ⟨rfl, _, _, ResD.weak (res_celln rfl rfl ag_25 sz_25 (by repeat constructor) (Nat.le_of_ble_eq_true rfl)) (Weak.toV rfl ), ?_, by rw [widen_is h1 h2, if_pos (by have := of_decide_eq_false h3; omega), if_pos (by have := of_decide_eq_false h4; omega), ← nrm_true h1]; exact ⟨rfl, rfl⟩⟩
  repeat constructor

theorem ileq_ok (a b : Ivl) (σ : List Chunk) : FSpec Tryd.prog 12 [.val (ivlV a), .val (ivlV b)] σ (fun d σ' => d = .val (.bool (leqI a b)) ∧ σ' = σ) := by
  refine spec_of_sw Tryd.func12 rfl ?_
  refine sw_seq ?_
  refine sl_region ?_
  refine sl_bx_imm rfl rfl rfl rfl rfl ?_
  refine sl_bx_imm rfl rfl rfl rfl rfl ?_
  refine sl_as rfl rfl rfl ?_
  refine sl_nil ?_
  refine sw_seq ?_
  refine sa_start [] mixed ?_
  refine sa_take 0 rfl rfl (by kernel_rfl) .nil (pu_load_rpn rfl rfl ag_25 sz_25 (Nat.le_of_ble_eq_true rfl)) ?_
  refine sa_take 1 rfl rfl (by kernel_rfl) .nil (pu_load_rpn rfl rfl ag_25 sz_25 (Nat.le_of_ble_eq_true rfl)) ?_
  refine sa_take 4 rfl rfl (by kernel_rfl) .nil (pu_load_rpn rfl rfl ag_25 sz_25 (Nat.le_of_ble_eq_true rfl)) ?_
  refine sa_one 2 (by kernel_rfl) rfl ?_
  refine sl_bsn ([ivlV a, ivlV b]) rfl rfl (.cons rfl (.cons rfl .nil)) u_22 sz_25 zs_25 (by decide) rfl rfl rfl (SzI.get (by repeat constructor)) ?_
  refine sl_nil ⟨.nil, ?_⟩
  refine sa_one 3 (by kernel_rfl) rfl ?_
  refine sl_callp rfl rfl cal_11 (ijoin_ok [a, b] (by simp)) ?_ ?_
  · repeat constructor
  refine sl_nil ⟨.nil, ?_⟩
  refine sa_one 5 (by kernel_rfl) rfl ?_
  refine sl_callp rfl rfl cal_27 (plain_ok b) ?_ ?_
  · repeat constructor
  refine sl_nil ⟨.nil, ?_⟩
  refine sa_take 6 rfl rfl (by kernel_rfl) .nil (pu_struct_eq rfl rfl rfl ag_25 eg_25 ek_25 rfl) ?_
  refine sa_one 7 (by kernel_rfl) rfl ?_
  refine sl_as rfl rfl rfl ?_
  refine sl_nil ⟨.nil, ?_⟩
  refine sa_done (by kernel_rfl) ?_
  refine sw_ret ⟨rfl, _, _, res_one rfl rfl, ?_, ⟨rfl, rfl⟩⟩
  repeat constructor

theorem rleq_ok (a b : Ivl) (ha : IvlOk a) (hb : IvlOk b) (σ : List Chunk) : FSpec Tryd.prog 22 [.val (ivlV a), .val (ivlV b)] σ (fun d σ' => d = .val (.bool (leqI a b)) ∧ σ' = σ) := by
  rw [leqI_eq ha hb]
  refine spec_of_sw Tryd.func22 rfl ?_
  refine sw_seq ?_
  refine sl_region ?_
  refine sl_bx rfl rfl rfl rfl (fun b2 => ?_)
  refine sl_bx rfl rfl rfl rfl (fun b3 => ?_)
  refine sl_as rfl rfl rfl ?_
  refine sl_nil ?_
  refine sw_seq ?_
  refine sa_start [] mixed ?_
  apply sa_conf [.p 0 (some 5) [] _, .p 1 (some 6) [0] _, .p 2 (some 7) [] _] (I := [(0, []), (1, [0]), (2, [])]) (nT := 3) rfl rfl rfl (by kernel_rfl) .nil
  · refine (.cons ?_ (.cons ?_ (.cons ?_ .nil)))
    · apply StepOk.p
      iterate 3 rfl
      intro β σX hσX
      first
        | refine sl_load_rpn rfl rfl rfl ag_25 sz_25 (Nat.le_of_ble_eq_true rfl) ?_
        | refine sl_load_blkn rfl rfl rfl ag_25 sz_25 (hσX _ (by repeat constructor)) (Nat.le_of_ble_eq_true rfl) ?_
        | refine sl_load_ref rfl rfl rfl ag_25 sz_25 (Nat.le_of_ble_eq_true rfl) ?_
      exact sl_nil ⟨rfl, rfl, rfl, rfl⟩
    · apply StepOk.p
      iterate 3 rfl
      intro β σX hσX
      show SL _ _ _ _ (sput _ (some 5) _) _ _
      refine sl_callp rfl rfl cal_29 (norm_ok a) ?_ ?_
      · repeat constructor
      exact sl_nil ⟨rfl, rfl, rfl, rfl⟩
    · apply StepOk.p
      iterate 3 rfl
      intro β σX hσX
      first
        | refine sl_load_rpn rfl rfl rfl ag_25 sz_25 (Nat.le_of_ble_eq_true rfl) ?_
        | refine sl_load_blkn rfl rfl rfl ag_25 sz_25 (hσX _ (by repeat constructor)) (Nat.le_of_ble_eq_true rfl) ?_
        | refine sl_load_ref rfl rfl rfl ag_25 sz_25 (Nat.le_of_ble_eq_true rfl) ?_
      exact sl_nil ⟨rfl, rfl, rfl, rfl⟩
  refine contT_p (contT_p (contT_p (contT_nil ?_)))
  refine sa_one 3 (by kernel_rfl) rfl ?_
  refine sl_callp rfl rfl cal_29 (norm_ok b) ?_ ?_
  · repeat constructor
  refine sl_nil ⟨.nil, ?_⟩
  refine sa_one 4 (by kernel_rfl) rfl ?_
  refine sl_stp rfl rfl rfl rfl sz_25 rfl rfl rfl (by repeat constructor) (Nat.le_of_ble_eq_true rfl) ?_
  refine sl_nil ⟨.nil, ?_⟩
  refine sa_one 5 (by kernel_rfl) rfl ?_
  refine sl_stp rfl rfl rfl rfl sz_25 rfl rfl rfl (by repeat constructor) (Nat.le_of_ble_eq_true rfl) ?_
  refine sl_nil ⟨.nil, ?_⟩
  refine sa_done (by kernel_rfl) ?_
  refine sw_seq ?_
  refine sl_region ?_
  first
    | refine sl_fieldAddr_ptr rfl rfl rfl fo_25_0 ?_
    | refine sl_fieldAddr_rp rfl rfl rfl fo_25_0 ?_
    | refine sl_fieldAddr_ref rfl rfl rfl fo_25_0 ?_
  first
    | refine sl_load_rp1 rfl rfl rfl ag_4 rfl ?_
    | refine sl_load_blk1 rfl rfl rfl ag_4 (by repeat constructor) rfl ?_
  refine sl_not rfl rfl rfl ?_
  refine sl_mv rfl rfl rfl ?_
  refine sl_case_at 12 rfl (fun h1 => ?_) (fun h1 => ?_)
  · refine sl_guard_n rfl rfl rfl h1 ?_
    refine sl_guard_n rfl rfl rfl h1 ?_
    refine sl_guard_n rfl rfl rfl h1 ?_
    refine sl_guard_u rfl rfl rfl ?_
    refine sl_guard_u rfl rfl rfl ?_
    refine sl_guard_u rfl rfl rfl ?_
    refine sl_guard_u rfl rfl rfl ?_
    refine sl_guard_u rfl rfl rfl ?_
    refine sl_guard_n rfl rfl rfl h1 ?_
    refine sl_guard_n rfl rfl rfl h1 ?_
    refine sl_guard_u rfl rfl rfl ?_
    refine sl_guard_u rfl rfl rfl ?_
    refine sl_guard_u rfl rfl rfl ?_
    refine sl_guard_u rfl rfl rfl ?_
    refine sl_guard_u rfl rfl rfl ?_
    refine sl_guard_n rfl rfl rfl h1 ?_
    refine sl_pk_t rfl rfl rfl h1 rfl ?_
    refine sl_as rfl rfl rfl ?_
    refine sl_nil ?_
    refine sw_ret ⟨rfl, _, _, res_one rfl rfl, ?_, ⟨congrArg (fun b => D.val (.bool b)) (leN_no h1).symm, rfl⟩⟩
    repeat constructor
  refine sl_guard_y rfl rfl rfl h1 ?_
  first
    | refine sl_fieldAddr_ptr rfl rfl rfl fo_25_0 ?_
    | refine sl_fieldAddr_rp rfl rfl rfl fo_25_0 ?_
    | refine sl_fieldAddr_ref rfl rfl rfl fo_25_0 ?_
  refine sl_guard_y rfl rfl rfl h1 ?_
  first
    | refine sl_load_rp1 rfl rfl rfl ag_4 rfl ?_
    | refine sl_load_blk1 rfl rfl rfl ag_4 (by repeat constructor) rfl ?_
  refine sl_guard_y rfl rfl rfl h1 ?_
  refine sl_mv rfl rfl rfl ?_
  refine sl_case_at 15 rfl (fun h2 => ?_) (fun h2 => ?_)
  · refine sl_guard_y rfl rfl rfl h2 ?_
    first
      | refine sl_fieldAddr_ptr rfl rfl rfl fo_25_1 ?_
      | refine sl_fieldAddr_rp rfl rfl rfl fo_25_1 ?_
      | refine sl_fieldAddr_ref rfl rfl rfl fo_25_1 ?_
    refine sl_guard_y rfl rfl rfl h2 ?_
    first
      | refine sl_load_rp1 rfl rfl rfl ag_2 rfl ?_
      | refine sl_load_blk1 rfl rfl rfl ag_2 (by repeat constructor) rfl ?_
    refine sl_guard_y rfl rfl rfl h2 ?_
    first
      | refine sl_fieldAddr_ptr rfl rfl rfl fo_25_1 ?_
      | refine sl_fieldAddr_rp rfl rfl rfl fo_25_1 ?_
      | refine sl_fieldAddr_ref rfl rfl rfl fo_25_1 ?_
    refine sl_guard_y rfl rfl rfl h2 ?_
    first
      | refine sl_load_rp1 rfl rfl rfl ag_2 rfl ?_
      | refine sl_load_blk1 rfl rfl rfl ag_2 (by repeat constructor) rfl ?_
    refine sl_guard_y rfl rfl rfl h2 ?_
    refine sl_bin rfl rfl rfl rfl rfl ?_
    refine sl_guard_y rfl rfl rfl h1 ?_
    refine sl_pk_t rfl rfl rfl h2 rfl ?_
    refine sl_guard_y rfl rfl rfl h1 ?_
    refine sl_mv rfl rfl rfl ?_
    refine sl_case_at 22 rfl (fun h3 => ?_) (fun h3 => ?_)
    · refine sl_guard_y rfl rfl rfl h3 ?_
      first
        | refine sl_fieldAddr_ptr rfl rfl rfl fo_25_2 ?_
        | refine sl_fieldAddr_rp rfl rfl rfl fo_25_2 ?_
        | refine sl_fieldAddr_ref rfl rfl rfl fo_25_2 ?_
      refine sl_guard_y rfl rfl rfl h3 ?_
      first
        | refine sl_load_rp1 rfl rfl rfl ag_2 rfl ?_
        | refine sl_load_blk1 rfl rfl rfl ag_2 (by repeat constructor) rfl ?_
      refine sl_guard_y rfl rfl rfl h3 ?_
      first
        | refine sl_fieldAddr_ptr rfl rfl rfl fo_25_2 ?_
        | refine sl_fieldAddr_rp rfl rfl rfl fo_25_2 ?_
        | refine sl_fieldAddr_ref rfl rfl rfl fo_25_2 ?_
      refine sl_guard_y rfl rfl rfl h3 ?_
      first
        | refine sl_load_rp1 rfl rfl rfl ag_2 rfl ?_
        | refine sl_load_blk1 rfl rfl rfl ag_2 (by repeat constructor) rfl ?_
      refine sl_guard_y rfl rfl rfl h3 ?_
      refine sl_bin rfl rfl rfl rfl rfl ?_
      refine sl_guard_y rfl rfl rfl h1 ?_
      refine sl_pk_t rfl rfl rfl h3 rfl ?_
      refine sl_pk_f rfl rfl rfl h1 rfl ?_
      refine sl_as rfl rfl rfl ?_
      refine sl_nil ?_
      refine sw_ret ⟨rfl, _, _, res_one rfl rfl, ?_, ⟨congrArg (fun b => D.val (.bool b)) (leN_hi h1 h2 h3).symm, rfl⟩⟩
      repeat constructor
    refine sl_guard_n rfl rfl rfl h3 ?_
    refine sl_guard_n rfl rfl rfl h3 ?_
    refine sl_guard_n rfl rfl rfl h3 ?_
    refine sl_guard_n rfl rfl rfl h3 ?_
    refine sl_guard_n rfl rfl rfl h3 ?_
    refine sl_guard_y rfl rfl rfl h1 ?_
    refine sl_pk_f rfl rfl rfl h3 rfl ?_
    refine sl_pk_f rfl rfl rfl h1 rfl ?_
    refine sl_as rfl rfl rfl ?_
    refine sl_nil ?_
    refine sw_ret ⟨rfl, _, _, res_one rfl rfl, ?_, ⟨congrArg (fun b => D.val (.bool b)) (leN_lo h1 h3).symm, rfl⟩⟩
    repeat constructor
  refine sl_guard_n rfl rfl rfl h2 ?_
  refine sl_guard_n rfl rfl rfl h2 ?_
  refine sl_guard_n rfl rfl rfl h2 ?_
  refine sl_guard_n rfl rfl rfl h2 ?_
  refine sl_guard_n rfl rfl rfl h2 ?_
  refine sl_guard_y rfl rfl rfl h1 ?_
  refine sl_pk_f rfl rfl rfl h2 rfl ?_
  refine sl_guard_y rfl rfl rfl h1 ?_
  refine sl_mv rfl rfl rfl ?_
  refine sl_guard_n rfl rfl rfl (rfl) ?_
  refine sl_guard_n rfl rfl rfl (rfl) ?_
  refine sl_guard_n rfl rfl rfl (rfl) ?_
  refine sl_guard_n rfl rfl rfl (rfl) ?_
  refine sl_guard_n rfl rfl rfl (rfl) ?_
  refine sl_guard_y rfl rfl rfl h1 ?_
  refine sl_pk_f rfl rfl rfl (rfl) rfl ?_
  refine sl_pk_f rfl rfl rfl h1 rfl ?_
  refine sl_as rfl rfl rfl ?_
  refine sl_nil ?_
  refine sw_ret ⟨rfl, _, _, res_one rfl rfl, ?_, ⟨congrArg (fun b => D.val (.bool b)) (leN_b h1 h2).symm, rfl⟩⟩
  repeat constructor

theorem td_pos {n : Int} (h : 0 ≤ n) : n.tdiv 10 = n / 10 ∧ n.tmod 10 = n % 10 := ⟨Int.tdiv_eq_ediv_of_nonneg h, Int.tmod_eq_emod_of_nonneg h⟩
theorem td_neg {n : Int} (h : n < 0) : n.tdiv 10 = -((-n) / 10) ∧ n.tmod 10 = -((-n) % 10) := by
  have e := td_pos (n := -n) (by omega)
  rw [Int.neg_tdiv, Int.neg_tmod] at e
  omega

/-- The document's decimal numeral, of a number that is not below 0. -/
theorem dec_pos : ∀ (m : Nat) (n : Int), n.natAbs = m → isI64 n → 0 ≤ n → ∀ σ, FSpec Tryd.prog 30 [.val (.int .i64 n)] σ (fun d σ' => d = .val (.str (Lib.itoa n)) ∧ σ' = σ) := by
  intro m
  induction m using Nat.strongRecOn with
  | ind m ih =>
  intro n hm hn h0 σ
  have hn1 := hn.1
  have hn2 := hn.2
  obtain ⟨d1, d2⟩ := td_pos h0
  refine spec_of_sw Tryd.func30 rfl ?_
  refine sw_seq ?_
  refine sl_region ?_
  refine sl_as rfl rfl rfl ?_
  refine sl_nil ?_
  refine sw_seq ?_
  refine sw_seq ?_
  refine sl_region ?_
  refine sl_mv rfl rfl rfl ?_
  refine sl_bin rfl rfl rfl rfl rfl ?_
  refine sl_nil ?_
  refine sw_false rfl (decide_eq_false (by omega)) ?_
  refine sw_skip ?_
  refine sw_seq ?_
  refine sw_seq ?_
  refine sl_region ?_
  refine sl_mv rfl rfl rfl ?_
  refine sl_bin rfl rfl rfl rfl rfl ?_
  refine sl_nil ?_
  refine sw_cond rfl (fun h2 => ?_) (fun h2 => ?_)
  · have h2 : n < 10 := of_decide_eq_true h2
    obtain ⟨k, rfl⟩ : ∃ k : Nat, n = (k : Int) := ⟨n.toNat, by omega⟩
    refine sw_seq ?_
    refine sl_region ?_
    refine sl_mv rfl rfl rfl ?_
    refine sl_mv rfl rfl rfl ?_
    first
      | refine sl_inc rfl rfl rfl rfl (by omega) ?_
      | refine sl_add rfl rfl rfl rfl (by constructor <;> omega) ?_
      | refine sl_bin rfl rfl rfl rfl rfl ?_
    refine sl_set 23 (.val (.int .i64 ((k + 1 : Nat) : Int))) (congrArg (fun z => D.val (.int .i64 z)) (by omega)) ?_
    refine sl_slice_str k (k + 1) rfl rfl rfl u_9 ⟨_, rfl⟩ ⟨_, rfl⟩ (by omega) (show k + 1 ≤ 10 by omega) ?_
    refine sl_as rfl rfl rfl ?_
    refine sl_nil ?_
    refine sw_ret ⟨rfl, _, _, res_one rfl rfl, ?_, ⟨congrArg (fun l => D.val (.str l)) (dec_part (by omega)), rfl⟩⟩
    repeat constructor
  have h2 : ¬ n < 10 := of_decide_eq_false h2
  have q1 : isI64 (n.tdiv 10) := ⟨by omega, by omega⟩
  have q2 : isI64 (n.tmod 10) := ⟨by omega, by omega⟩
  refine sw_skip ?_
  refine sw_seq ?_
  refine sl_region ?_
  refine sl_mv rfl rfl rfl ?_
  refine sl_div rfl rfl rfl rfl (by decide) ?_
  refine sl_set 26 (.val (.int .i64 (n.tdiv 10))) (congrArg (fun z => D.val (.int .i64 z)) (wrap_i64 q1.1 q1.2)) ?_
  refine sl_callp rfl rfl cal_30 (ih (n.tdiv 10).natAbs (by omega) _ rfl q1 (by omega)) ?_ ?_
  · repeat constructor
  refine sl_mv rfl rfl rfl ?_
  refine sl_rem rfl rfl rfl rfl (by decide) ?_
  refine sl_callp rfl rfl cal_30 (ih (n.tmod 10).natAbs (by omega) _ rfl q2 (by omega)) ?_ ?_
  · repeat constructor
  refine sl_str_add rfl rfl rfl rfl (by have := itoa_len q1; have := itoa_len q2; omega) ?_
  refine sl_as rfl rfl rfl ?_
  refine sl_nil ?_
  refine sw_ret ⟨rfl, _, _, res_one rfl rfl, ?_, ⟨by rw [itoa_more (by omega)]; rfl, rfl⟩⟩
  repeat constructor

/-- The document's decimal numeral. -/
theorem dec_ok : ∀ (m : Nat) (n : Int), n.natAbs = m → isI64 n → ∀ σ, FSpec Tryd.prog 30 [.val (.int .i64 n)] σ (fun d σ' => d = .val (.str (Lib.itoa n)) ∧ σ' = σ) := by
  intro m
  induction m using Nat.strongRecOn with
  | ind m ih =>
  intro n hm hn σ
  have hn1 := hn.1
  have hn2 := hn.2
  by_cases h0 : 0 ≤ n
  · exact dec_pos m n hm hn h0 σ
  obtain ⟨d1, d2⟩ := td_neg (n := n) (by omega)
  refine spec_of_sw Tryd.func30 rfl ?_
  refine sw_seq ?_
  refine sl_region ?_
  refine sl_as rfl rfl rfl ?_
  refine sl_nil ?_
  refine sw_seq ?_
  refine sw_seq ?_
  refine sl_region ?_
  refine sl_mv rfl rfl rfl ?_
  refine sl_bin rfl rfl rfl rfl rfl ?_
  refine sl_nil ?_
  refine sw_true rfl (decide_eq_true (by omega)) ?_
  refine sw_seq ?_
  refine sw_seq ?_
  refine sl_region ?_
  refine sl_mv rfl rfl rfl ?_
  refine sl_bin rfl rfl rfl rfl rfl ?_
  refine sl_nil ?_
  refine sw_cond rfl (fun h2 => ?_) (fun h2 => ?_)
  · have h2 : n < -9 := of_decide_eq_true h2
    have q1 : isI64 (n.tdiv 10) := ⟨by omega, by omega⟩
    have q2 : isI64 (-(n.tmod 10)) := ⟨by omega, by omega⟩
    refine sw_seq ?_
    refine sl_region ?_
    refine sl_mv rfl rfl rfl ?_
    refine sl_div rfl rfl rfl rfl (by decide) ?_
    refine sl_set 8 (.val (.int .i64 (n.tdiv 10))) (congrArg (fun z => D.val (.int .i64 z)) (wrap_i64 q1.1 q1.2)) ?_
    refine sl_callp rfl rfl cal_30 (ih (n.tdiv 10).natAbs (by omega) _ rfl q1) ?_ ?_
    · repeat constructor
    refine sl_mv rfl rfl rfl ?_
    refine sl_rem rfl rfl rfl rfl (by decide) ?_
    refine sl_neg rfl rfl rfl ?_
    refine sl_set 12 (.val (.int .i64 (-(n.tmod 10)))) (congrArg (fun z => D.val (.int .i64 z)) (by rw [Int.zero_sub]; exact wrap_i64 q2.1 q2.2)) ?_
    refine sl_callp rfl rfl cal_30 (dec_pos (-(n.tmod 10)).natAbs _ rfl q2 (by omega)) ?_ ?_
    · repeat constructor
    refine sl_str_add rfl rfl rfl rfl (by have := itoa_len q1; have := itoa_len q2; omega) ?_
    refine sl_as rfl rfl rfl ?_
    refine sl_nil ?_
    refine sw_ret ⟨rfl, _, _, res_one rfl rfl, ?_, ⟨by rw [itoa_big h2]; rfl, rfl⟩⟩
    repeat constructor
  have h2 : ¬ n < -9 := of_decide_eq_false h2
  have q1 : isI64 (-n) := ⟨by omega, by omega⟩
  refine sw_skip ?_
  refine sw_seq ?_
  refine sl_region ?_
  refine sl_mv rfl rfl rfl ?_
  refine sl_neg rfl rfl rfl ?_
  refine sl_set 16 (.val (.int .i64 (-n))) (congrArg (fun z => D.val (.int .i64 z)) (by rw [Int.zero_sub]; exact wrap_i64 q1.1 q1.2)) ?_
  refine sl_callp rfl rfl cal_30 (dec_pos (-n).natAbs _ rfl q1 (by omega)) ?_ ?_
  · repeat constructor
  refine sl_str_add rfl rfl rfl rfl (by have := itoa_len q1; simp; omega) ?_
  refine sl_as rfl rfl rfl ?_
  refine sl_nil ?_
  refine sw_ret ⟨rfl, _, _, res_one rfl rfl, ?_, ⟨congrArg (fun l => D.val (.str l)) (itoa_minus (n := n) (by omega)), rfl⟩⟩
  repeat constructor

theorem textI_no {a : Ivl} (h : (!(nrm a).some) = true) : textI a = [110, 111, 110, 101] := by
  unfold textI textN
  have : nrm a = noIval := by
    by_cases h' : a.some = true ∧ a.lo ≤ a.hi
    · rw [show nrm a = a from if_pos h'] at h ⊢; rw [h'.1] at h; cases h
    · exact nrm_no h'
  rw [this]; rfl
theorem eqI_no {a : Ivl} : eqI (nrm a) noIval = !(nrm a).some := by
  by_cases h' : a.some = true ∧ a.lo ≤ a.hi
  · rw [show nrm a = a from if_pos h', h'.1]; unfold eqI; rw [h'.1]; rfl
  · rw [nrm_no h']; rfl

theorem text_none {a : Ivl} (h : eqI (nrm a) noIval = true) : textI a = [110, 111, 110, 101] := by unfold textI textN; rw [if_pos h]
theorem text_all {a : Ivl} (h : eqI (nrm a) noIval = false) (h2 : eqI (nrm a) topI = true) : textI a = [97, 108, 108] := by unfold textI textN; rw [if_neg (by rw [h]; simp), if_pos h2]
theorem text_is {a : Ivl} (h : eqI (nrm a) noIval = false) (h2 : eqI (nrm a) topI = false) : textI a = [91] ++ Lib.itoa (nrm a).lo ++ [44] ++ Lib.itoa (nrm a).hi ++ [93] := by unfold textI textN; rw [if_neg (by rw [h]; simp), if_neg (by rw [h2]; simp)]

theorem itext_ok (a : Ivl) (ha : IvlOk a) (σ : List Chunk) : FSpec Tryd.prog 17 [.val (ivlV a)] σ (fun d σ' => d = .val (.str (textI a)) ∧ σ' = σ) := by
  have q := (nrm_ok ha).ok
  refine spec_of_sw Tryd.func17 rfl ?_
  refine sw_seq ?_
  refine sl_region ?_
  refine sl_bx rfl rfl rfl rfl (fun b1 => ?_)
  refine sl_as rfl rfl rfl ?_
  refine sl_nil ?_
  refine sw_seq ?_
  refine sw_seq ?_
  refine sl_region ?_
  first
    | refine sl_load_rpn rfl rfl rfl ag_25 sz_25 (Nat.le_of_ble_eq_true rfl) ?_
    | refine sl_load_blkn rfl rfl rfl ag_25 sz_25 (by repeat constructor) (Nat.le_of_ble_eq_true rfl) ?_
    | refine sl_load_ref rfl rfl rfl ag_25 sz_25 (Nat.le_of_ble_eq_true rfl) ?_
  refine sl_callp rfl rfl cal_27 (plain_ok a) ?_ ?_
  · repeat constructor
  refine sl_stp rfl rfl rfl rfl sz_25 rfl rfl rfl (by repeat constructor) (Nat.le_of_ble_eq_true rfl) ?_
  refine sl_nil ?_
  refine sw_seq ?_
  refine sl_region ?_
  first
    | refine sl_load_rpn rfl rfl rfl ag_25 sz_25 (Nat.le_of_ble_eq_true rfl) ?_
    | refine sl_load_blkn rfl rfl rfl ag_25 sz_25 (by repeat constructor) (Nat.le_of_ble_eq_true rfl) ?_
    | refine sl_load_ref rfl rfl rfl ag_25 sz_25 (Nat.le_of_ble_eq_true rfl) ?_
  refine sl_nil ?_
  refine sw_block ?_
  refine sw_seq ?_
  refine sl_region ?_
  refine sl_bd rfl rfl .nil bi_25 zd_25 rfl ?_
  refine sl_struct_eq rfl rfl rfl rfl ag_25 eg_25 ek_25 rfl ?_
  refine sl_set 8 (.val (.bool (eqI (nrm a) noIval))) (rfl) ?_
  refine sl_as rfl rfl rfl ?_
  refine sl_nil ?_
  refine sw_cond rfl (fun h1 => ?_) (fun h1 => ?_)
  · refine sw_seq ?_
    refine sl_region ?_
    refine sl_as rfl rfl rfl ?_
    refine sl_nil ?_
    refine sw_ret ⟨rfl, _, _, res_one rfl rfl, ?_, ⟨congrArg (fun l => D.val (.str l)) (text_none h1).symm, rfl⟩⟩
    repeat constructor
  refine sw_seq ?_
  refine sl_region ?_
  refine sl_callp rfl rfl cal_15 (itop_ok) ?_ ?_
  · repeat constructor
  refine sl_struct_eq rfl rfl rfl rfl ag_25 eg_25 ek_25 rfl ?_
  refine sl_set 11 (.val (.bool (eqI (nrm a) topI))) (rfl) ?_
  refine sl_as rfl rfl rfl ?_
  refine sl_nil ?_
  refine sw_cond rfl (fun h2 => ?_) (fun h2 => ?_)
  · refine sw_seq ?_
    refine sl_region ?_
    refine sl_as rfl rfl rfl ?_
    refine sl_nil ?_
    refine sw_ret ⟨rfl, _, _, res_one rfl rfl, ?_, ⟨congrArg (fun l => D.val (.str l)) (text_all h1 h2).symm, rfl⟩⟩
    repeat constructor
  have l1 := itoa_len q.1
  have l2 := itoa_len q.2
  refine sw_skip ?_
  refine sw_seq ?_
  refine sa_start [] mixed ?_
  first
    | refine sa_take 0 rfl rfl (by kernel_rfl) .nil (pu_fieldAddr_ptr rfl rfl fo_25_1) ?_
    | refine sa_take 0 rfl rfl (by kernel_rfl) .nil (pu_fieldAddr_rp rfl rfl fo_25_1) ?_
    | refine sa_take 0 rfl rfl (by kernel_rfl) .nil (pu_fieldAddr_ref rfl rfl fo_25_1) ?_
  first
    | refine sa_take 5 rfl rfl (by kernel_rfl) .nil (pu_fieldAddr_ptr rfl rfl fo_25_2) ?_
    | refine sa_take 5 rfl rfl (by kernel_rfl) .nil (pu_fieldAddr_rp rfl rfl fo_25_2) ?_
    | refine sa_take 5 rfl rfl (by kernel_rfl) .nil (pu_fieldAddr_ref rfl rfl fo_25_2) ?_
  apply sa_conf [.p 1 (some 13) [] _, .p 2 (some 14) [0] _, .p 3 (some 15) [1] _, .p 4 (some 16) [2] _, .p 6 (some 18) [] _, .p 7 (some 19) [1, 4] _] (I := [(1, []), (2, [0]), (3, [1]), (4, [2]), (6, []), (7, [1, 4])]) (nT := 6) rfl rfl rfl (by kernel_rfl) .nil
  · refine (.cons ?_ (.cons ?_ (.cons ?_ (.cons ?_ (.cons ?_ (.cons ?_ .nil))))))
    · apply StepOk.p
      iterate 3 rfl
      intro β σX hσX
      first
        | refine sl_load_rp1 rfl rfl rfl ag_2 rfl ?_
        | refine sl_load_blk1 rfl rfl rfl ag_2 (hσX _ (by repeat constructor)) rfl ?_
      exact sl_nil ⟨rfl, rfl, rfl, rfl⟩
    · apply StepOk.p
      iterate 3 rfl
      intro β σX hσX
      show SL _ _ _ _ (sput _ (some 13) _) _ _
      refine sl_callp rfl rfl cal_28 (fmtInt_ok rfl (nrm a).lo q.1) ?_ ?_
      · repeat constructor
      exact sl_nil ⟨rfl, rfl, rfl, rfl⟩
    · apply StepOk.p
      iterate 3 rfl
      intro β σX hσX
      show SL _ _ _ _ (sput _ (some 14) _) _ _
      refine sl_str_add rfl rfl rfl rfl (by simp; omega) ?_
      exact sl_nil ⟨rfl, rfl, rfl, rfl⟩
    · apply StepOk.p
      iterate 3 rfl
      intro β σX hσX
      show SL _ _ _ _ (sput _ (some 15) _) _ _
      refine sl_str_add rfl rfl rfl rfl (by simp; omega) ?_
      exact sl_nil ⟨rfl, rfl, rfl, rfl⟩
    · apply StepOk.p
      iterate 3 rfl
      intro β σX hσX
      first
        | refine sl_load_rp1 rfl rfl rfl ag_2 rfl ?_
        | refine sl_load_blk1 rfl rfl rfl ag_2 (hσX _ (by repeat constructor)) rfl ?_
      exact sl_nil ⟨rfl, rfl, rfl, rfl⟩
    · apply StepOk.p
      iterate 3 rfl
      intro β σX hσX
      show SL _ _ _ _ (sput (sput _ (some 14) _) (some 18) _) _ _
      refine sl_callp rfl rfl cal_28 (fmtInt_ok rfl (nrm a).hi q.2) ?_ ?_
      · repeat constructor
      exact sl_nil ⟨rfl, rfl, rfl, rfl⟩
  refine contT_p (contT_p (contT_p (contT_p (contT_p (contT_p (contT_nil ?_))))))
  refine sa_one 8 (by kernel_rfl) rfl ?_
  refine sl_str_add rfl rfl rfl rfl (by simp; omega) ?_
  refine sl_nil ⟨.nil, ?_⟩
  refine sa_one 9 (by kernel_rfl) rfl ?_
  refine sl_str_add rfl rfl rfl rfl (by simp; omega) ?_
  refine sl_nil ⟨.nil, ?_⟩
  refine sa_one 10 (by kernel_rfl) rfl ?_
  refine sl_as rfl rfl rfl ?_
  refine sl_nil ⟨.nil, ?_⟩
  refine sa_done (by kernel_rfl) ?_
  refine sw_ret ⟨rfl, _, _, res_one rfl rfl, ?_, ⟨congrArg (fun l => D.val (.str l)) (text_is h1 h2).symm, rfl⟩⟩
  repeat constructor

theorem rtext_ok (a : Ivl) (ha : IvlOk a) (σ : List Chunk) : FSpec Tryd.prog 24 [.val (ivlV a)] σ (fun d σ' => d = .val (.str (textI a)) ∧ σ' = σ) := by
  have q := (nrm_ok ha).ok
  refine spec_of_sw Tryd.func24 rfl ?_
  refine sw_seq ?_
  refine sl_region ?_
  refine sl_bx rfl rfl rfl rfl (fun b1 => ?_)
  refine sl_as rfl rfl rfl ?_
  refine sl_nil ?_
  refine sw_seq ?_
  refine sl_region ?_
  first
    | refine sl_load_rpn rfl rfl rfl ag_25 sz_25 (Nat.le_of_ble_eq_true rfl) ?_
    | refine sl_load_blkn rfl rfl rfl ag_25 sz_25 (by repeat constructor) (Nat.le_of_ble_eq_true rfl) ?_
    | refine sl_load_ref rfl rfl rfl ag_25 sz_25 (Nat.le_of_ble_eq_true rfl) ?_
  refine sl_callp rfl rfl cal_29 (norm_ok a) ?_ ?_
  · repeat constructor
  refine sl_stp rfl rfl rfl rfl sz_25 rfl rfl rfl (by repeat constructor) (Nat.le_of_ble_eq_true rfl) ?_
  refine sl_nil ?_
  refine sw_seq ?_
  refine sw_block ?_
  refine sw_seq ?_
  refine sl_region ?_
  first
    | refine sl_fieldAddr_ptr rfl rfl rfl fo_25_0 ?_
    | refine sl_fieldAddr_rp rfl rfl rfl fo_25_0 ?_
    | refine sl_fieldAddr_ref rfl rfl rfl fo_25_0 ?_
  first
    | refine sl_load_rp1 rfl rfl rfl ag_4 rfl ?_
    | refine sl_load_blk1 rfl rfl rfl ag_4 (by repeat constructor) rfl ?_
  refine sl_not rfl rfl rfl ?_
  refine sl_as rfl rfl rfl ?_
  refine sl_nil ?_
  refine sw_cond rfl (fun h1 => ?_) (fun h1 => ?_)
  · refine sw_seq ?_
    refine sl_region ?_
    refine sl_as rfl rfl rfl ?_
    refine sl_nil ?_
    refine sw_ret ⟨rfl, _, _, res_one rfl rfl, ?_, ⟨congrArg (fun l => D.val (.str l)) (textI_no h1).symm, rfl⟩⟩
    repeat constructor
  refine sw_seq ?_
  refine sa_start [] mixed ?_
  apply sa_conf [.p 0 (some 10) [] _, .p 1 (some 11) [] _] (I := [(0, []), (1, [])]) (nT := 2) rfl rfl rfl (by kernel_rfl) .nil
  · refine (.cons ?_ (.cons ?_ .nil))
    · apply StepOk.p
      iterate 3 rfl
      intro β σX hσX
      first
        | refine sl_load_rpn rfl rfl rfl ag_25 sz_25 (Nat.le_of_ble_eq_true rfl) ?_
        | refine sl_load_blkn rfl rfl rfl ag_25 sz_25 (hσX _ (by repeat constructor)) (Nat.le_of_ble_eq_true rfl) ?_
        | refine sl_load_ref rfl rfl rfl ag_25 sz_25 (Nat.le_of_ble_eq_true rfl) ?_
      exact sl_nil ⟨rfl, rfl, rfl, rfl⟩
    · apply StepOk.p
      iterate 3 rfl
      intro β σX hσX
      refine sl_callp rfl rfl cal_26 (rtop_ok) ?_ ?_
      · repeat constructor
      exact sl_nil ⟨rfl, rfl, rfl, rfl⟩
  refine contT_p (contT_p (contT_nil ?_))
  refine sa_take 2 rfl rfl (by kernel_rfl) .nil (pu_struct_eq rfl rfl rfl ag_25 eg_25 ek_25 rfl) ?_
  refine sa_set 12 (.val (.bool (eqI (nrm a) topI))) (rfl) ?_
  refine sa_one 3 (by kernel_rfl) rfl ?_
  refine sl_as rfl rfl rfl ?_
  refine sl_nil ⟨.nil, ?_⟩
  refine sa_done (by kernel_rfl) ?_
  refine sw_cond rfl (fun h2 => ?_) (fun h2 => ?_)
  · refine sw_seq ?_
    refine sl_region ?_
    refine sl_as rfl rfl rfl ?_
    refine sl_nil ?_
    refine sw_ret ⟨rfl, _, _, res_one rfl rfl, ?_, ⟨congrArg (fun l => D.val (.str l)) (text_all (by rw [eqI_no]; exact h1) h2).symm, rfl⟩⟩
    repeat constructor
  have l1 := itoa_len q.1
  have l2 := itoa_len q.2
  refine sw_skip ?_
  refine sw_seq ?_
  refine sa_start [] mixed ?_
  first
    | refine sa_take 0 rfl rfl (by kernel_rfl) .nil (pu_fieldAddr_ptr rfl rfl fo_25_1) ?_
    | refine sa_take 0 rfl rfl (by kernel_rfl) .nil (pu_fieldAddr_rp rfl rfl fo_25_1) ?_
    | refine sa_take 0 rfl rfl (by kernel_rfl) .nil (pu_fieldAddr_ref rfl rfl fo_25_1) ?_
  first
    | refine sa_take 5 rfl rfl (by kernel_rfl) .nil (pu_fieldAddr_ptr rfl rfl fo_25_2) ?_
    | refine sa_take 5 rfl rfl (by kernel_rfl) .nil (pu_fieldAddr_rp rfl rfl fo_25_2) ?_
    | refine sa_take 5 rfl rfl (by kernel_rfl) .nil (pu_fieldAddr_ref rfl rfl fo_25_2) ?_
  apply sa_conf [.p 1 (some 14) [] _, .p 2 (some 15) [0] _, .p 3 (some 16) [1] _, .p 4 (some 17) [2] _, .p 6 (some 19) [] _, .p 7 (some 20) [1, 4] _] (I := [(1, []), (2, [0]), (3, [1]), (4, [2]), (6, []), (7, [1, 4])]) (nT := 6) rfl rfl rfl (by kernel_rfl) .nil
  · refine (.cons ?_ (.cons ?_ (.cons ?_ (.cons ?_ (.cons ?_ (.cons ?_ .nil))))))
    · apply StepOk.p
      iterate 3 rfl
      intro β σX hσX
      first
        | refine sl_load_rp1 rfl rfl rfl ag_2 rfl ?_
        | refine sl_load_blk1 rfl rfl rfl ag_2 (hσX _ (by repeat constructor)) rfl ?_
      exact sl_nil ⟨rfl, rfl, rfl, rfl⟩
    · apply StepOk.p
      iterate 3 rfl
      intro β σX hσX
      show SL _ _ _ _ (sput _ (some 14) _) _ _
      refine sl_callp rfl rfl cal_30 (dec_ok _ (nrm a).lo rfl q.1) ?_ ?_
      · repeat constructor
      exact sl_nil ⟨rfl, rfl, rfl, rfl⟩
    · apply StepOk.p
      iterate 3 rfl
      intro β σX hσX
      show SL _ _ _ _ (sput _ (some 15) _) _ _
      refine sl_str_add rfl rfl rfl rfl (by simp; omega) ?_
      exact sl_nil ⟨rfl, rfl, rfl, rfl⟩
    · apply StepOk.p
      iterate 3 rfl
      intro β σX hσX
      show SL _ _ _ _ (sput _ (some 16) _) _ _
      refine sl_str_add rfl rfl rfl rfl (by simp; omega) ?_
      exact sl_nil ⟨rfl, rfl, rfl, rfl⟩
    · apply StepOk.p
      iterate 3 rfl
      intro β σX hσX
      first
        | refine sl_load_rp1 rfl rfl rfl ag_2 rfl ?_
        | refine sl_load_blk1 rfl rfl rfl ag_2 (hσX _ (by repeat constructor)) rfl ?_
      exact sl_nil ⟨rfl, rfl, rfl, rfl⟩
    · apply StepOk.p
      iterate 3 rfl
      intro β σX hσX
      show SL _ _ _ _ (sput (sput _ (some 15) _) (some 19) _) _ _
      refine sl_callp rfl rfl cal_30 (dec_ok _ (nrm a).hi rfl q.2) ?_ ?_
      · repeat constructor
      exact sl_nil ⟨rfl, rfl, rfl, rfl⟩
  refine contT_p (contT_p (contT_p (contT_p (contT_p (contT_p (contT_nil ?_))))))
  refine sa_one 8 (by kernel_rfl) rfl ?_
  refine sl_str_add rfl rfl rfl rfl (by simp; omega) ?_
  refine sl_nil ⟨.nil, ?_⟩
  refine sa_one 9 (by kernel_rfl) rfl ?_
  refine sl_str_add rfl rfl rfl rfl (by simp; omega) ?_
  refine sl_nil ⟨.nil, ?_⟩
  refine sa_one 10 (by kernel_rfl) rfl ?_
  refine sl_as rfl rfl rfl ?_
  refine sl_nil ⟨.nil, ?_⟩
  refine sa_done (by kernel_rfl) ?_
  refine sw_ret ⟨rfl, _, _, res_one rfl rfl, ?_, ⟨congrArg (fun l => D.val (.str l)) (text_is (by rw [eqI_no]; exact h1) h2).symm, rfl⟩⟩
  repeat constructor

end Go.Proofs.YtipacoopapjdpaaDoor

/- Walks: printed by a program of this session out of its script IvalD. -/
namespace Go.Proofs.YtipacoopapjdpaaDoor
set_option linter.unusedVariables false
set_option linter.unusedSimpArgs false
set_option maxRecDepth 4000
set_option maxHeartbeats 4000000
open Go Go.RowKit SL


theorem itoa_m1 : Lib.itoa (-1) = [45, 49] := by
  have := itoa_minus (n := -1) (by decide)
  rw [← this, show (- -1 : Int) = 1 from rfl, itoa_one (by decide) (by decide)]
  rfl
theorem text_ex : textI (ofI (-1) 2) = [91, 45, 49, 44, 50, 93] := by
  rw [text_is (by decide) (by decide), show (nrm (ofI (-1) 2)).lo = -1 from by decide, show (nrm (ofI (-1) 2)).hi = 2 from by decide, itoa_m1, itoa_one (by decide) (by decide)]
  rfl
theorem tt_ivl {x y : Ivl} (h : x = y) : D.val (.bool (eqI x y)) = D.val (.bool true) := congrArg (fun b => D.val (.bool b)) (eqI_of h)
theorem ff_ivl {x y : Ivl} (h : x = y) : D.val (.bool (!eqI x y)) = D.val (.bool false) := congrArg (fun b => D.val (.bool b)) (by rw [eqI_of h]; rfl)
theorem tt_str {x y : List UInt8} (h : x = y) : D.val (.bool (x == y)) = D.val (.bool true) := congrArg (fun b => D.val (.bool b)) (by simpa using h)
theorem ofI_ok {lo hi : Int} (h1 : isI64 lo) (h2 : isI64 hi) : Nrm (ofI lo hi) := nrm_ok ⟨h1, h2⟩

theorem known12_ok (σ : List Chunk) : FSpec Tryd.prog 8 [] σ (fun d σ' => d = .val (.bool true) ∧ σ' = σ) := by
  refine spec_of_sw Tryd.func8 rfl ?_
  refine sw_seq ?_
  refine sl_region ?_
  refine sl_as rfl rfl rfl ?_
  refine sl_nil ?_
  refine sw_seq ?_
  refine sl_region ?_
  refine sl_callp rfl rfl cal_13 (iof_ok 0 1) ?_ ?_
  · repeat constructor
  refine sl_callp rfl rfl cal_13 (iof_ok 0 2) ?_ ?_
  · repeat constructor
  refine sl_callp rfl rfl cal_10 (iwiden_ok (ofI 0 1) (ofI 0 2)) ?_ ?_
  · repeat constructor
  refine sl_callp rfl rfl cal_13 (iof_ok 0 9223372036854775807) ?_ ?_
  · repeat constructor
  refine sl_struct_eq rfl rfl rfl rfl ag_25 eg_25 ek_25 rfl ?_
  refine sl_set 5 (.val (.bool true)) (tt_ivl (x := widenI (ofI 0 1) (ofI 0 2)) (y := ofI 0 9223372036854775807) (by decide)) ?_
  refine sl_mv rfl rfl rfl ?_
  refine sl_guard_y rfl rfl rfl (rfl) ?_
  refine sl_callp rfl rfl cal_16 (iconst_ok 1) ?_ ?_
  · repeat constructor
  refine sl_guard_y rfl rfl rfl (rfl) ?_
  refine sl_callp rfl rfl cal_16 (iconst_ok 3) ?_ ?_
  · repeat constructor
  refine sl_guard_y rfl rfl rfl (rfl) ?_
  refine sl_bsn ([ivlV (ofI 1 1), ivlV (ofI 3 3)]) rfl rfl (.cons rfl (.cons rfl .nil)) u_22 sz_25 zs_25 (by decide) rfl rfl rfl (SzI.get (by repeat constructor)) ?_
  refine sl_guard_y rfl rfl rfl (rfl) ?_
  refine sl_callp rfl rfl cal_11 (ijoin_ok [ofI 1 1, ofI 3 3] (by simp)) ?_ ?_
  · repeat constructor
  refine sl_guard_y rfl rfl rfl (rfl) ?_
  refine sl_callp rfl rfl cal_13 (iof_ok 1 3) ?_ ?_
  · repeat constructor
  refine sl_guard_y rfl rfl rfl (rfl) ?_
  refine sl_struct_eq rfl rfl rfl rfl ag_25 eg_25 ek_25 rfl ?_
  refine sl_set 12 (.val (.bool true)) (tt_ivl (x := joinL [ofI 1 1, ofI 3 3]) (y := ofI 1 3) (by decide)) ?_
  refine sl_pk_t rfl rfl rfl (rfl) rfl ?_
  refine sl_mv rfl rfl rfl ?_
  refine sl_guard_y rfl rfl rfl (rfl) ?_
  refine sl_callp rfl rfl cal_13 (iof_ok 2 1) ?_ ?_
  · repeat constructor
  refine sl_guard_y rfl rfl rfl (rfl) ?_
  first | refine sl_field rfl rfl (Weak.refl _) fi_25_0 (Nat.le_of_ble_eq_true rfl) (by decide) ?_ | refine sl_field rfl rfl (Weak.agg _) fi_25_0 (Nat.le_of_ble_eq_true rfl) (by decide) ?_
  refine sl_guard_y rfl rfl rfl (rfl) ?_
  refine sl_not rfl rfl rfl ?_
  refine sl_set 17 (.val (.bool true)) (rfl) ?_
  refine sl_pk_t rfl rfl rfl (rfl) rfl ?_
  refine sl_mv rfl rfl rfl ?_
  refine sl_guard_y rfl rfl rfl (rfl) ?_
  refine sl_callp rfl rfl cal_15 (itop_ok) ?_ ?_
  · repeat constructor
  refine sl_guard_y rfl rfl rfl (rfl) ?_
  refine sl_callp rfl rfl cal_14 (ihas_ok topI 7) ?_ ?_
  · repeat constructor
  refine sl_set 21 (.val (.bool true)) (rfl) ?_
  refine sl_pk_t rfl rfl rfl (rfl) rfl ?_
  refine sl_mv rfl rfl rfl ?_
  refine sl_guard_y rfl rfl rfl (rfl) ?_
  refine sl_callp rfl rfl cal_13 (iof_ok (-1) 2) ?_ ?_
  · repeat constructor
  refine sl_guard_y rfl rfl rfl (rfl) ?_
  refine sl_callp rfl rfl cal_17 (itext_ok (ofI (-1) 2) (ofI_ok ⟨by decide, by decide⟩ ⟨by decide, by decide⟩).ok) ?_ ?_
  · repeat constructor
  refine sl_guard_y rfl rfl rfl (rfl) ?_
  refine sl_str rfl rfl rfl rfl rfl ?_
  refine sl_set 26 (.val (.bool true)) (tt_str text_ex) ?_
  refine sl_pk_t rfl rfl rfl (rfl) rfl ?_
  refine sl_mv rfl rfl rfl ?_
  refine sl_guard_y rfl rfl rfl (rfl) ?_
  refine sl_callp rfl rfl cal_9 (iempty_ok) ?_ ?_
  · repeat constructor
  refine sl_guard_y rfl rfl rfl (rfl) ?_
  refine sl_callp rfl rfl cal_11 (ijoin_ok [] (by simp)) ?_ ?_
  · repeat constructor
  refine sl_guard_y rfl rfl rfl (rfl) ?_
  refine sl_struct_eq rfl rfl rfl rfl ag_25 eg_25 ek_25 rfl ?_
  refine sl_set 31 (.val (.bool true)) (tt_ivl (x := noIval) (y := joinL []) rfl) ?_
  refine sl_pk_t rfl rfl rfl (rfl) rfl ?_
  refine sl_as rfl rfl rfl ?_
  refine sl_nil ?_
  refine sw_ret ⟨rfl, _, _, res_one rfl rfl, ?_, ⟨rfl, rfl⟩⟩
  repeat constructor

theorem ivalJoins_ok (l : List Ivl) (a b : Ivl) (n : Int) (hl : ∀ x ∈ l, IvlOk x) (ha : IvlOk a) (hb : IvlOk b) (hn : isI64 n) :
    FSpec Tryd.prog 5 [.val (.list (l.map ivlV)), .val (ivlV a), .val (ivlV b), .val (.int .i64 n)] [] (fun d σ' => d = .val (.bool true) ∧ σ' = []) := by
  refine spec_of_sw Tryd.func5 rfl ?_
  refine sw_seq ?_
  refine sl_region ?_
  refine sl_bx_imm rfl rfl rfl rfl rfl ?_
  refine sl_bx_imm rfl rfl rfl rfl rfl ?_
  refine sl_as rfl rfl rfl ?_
  refine sl_nil ?_
  refine sw_seq ?_
  refine sw_seq ?_
  refine sl_region ?_
  refine sl_callp rfl rfl cal_8 (known12_ok) ?_ ?_
  · repeat constructor
  refine sl_not rfl rfl rfl ?_
  refine sl_nil ?_
  refine sw_false rfl (rfl) ?_
  refine sw_skip ?_
  refine sw_seq ?_
  refine sw_seq ?_
  refine sl_region ?_
  refine sl_mv rfl rfl rfl ?_
  first
    | refine sl_len rfl rfl rfl ⟨_, u_22⟩ ?_
    | refine sl_len_sl rfl rfl rfl ⟨_, u_22⟩ ?_
    | refine sl_len_w _ rfl rfl rfl ⟨_, u_22⟩ ?_
  refine sl_bin rfl rfl rfl rfl rfl ?_
  refine sl_nil ?_
  refine sw_cond rfl (fun h1 => ?_) (fun h1 => ?_)
  · refine sw_seq ?_
    refine sl_region ?_
    refine sl_as rfl rfl rfl ?_
    refine sl_nil ?_
    refine sw_ret ⟨rfl, _, _, res_one rfl rfl, ?_, ⟨rfl, rfl⟩⟩
    repeat constructor
  have h1 : l.length ≤ 1000 := by have := of_decide_eq_false h1; simp only [List.length_map] at this; omega
  refine sw_skip ?_
  refine sw_seq ?_
  refine sa_start [] mixed ?_
  refine sa_take 0 rfl rfl (by kernel_rfl) .nil (pu_mv rfl rfl) ?_
  refine sa_take 2 rfl rfl (by kernel_rfl) .nil (pu_mv rfl rfl) ?_
  refine sa_one 1 (by kernel_rfl) rfl ?_
  refine sl_callp rfl rfl cal_11 (ijoin_ok l h1) ?_ ?_
  · repeat constructor
  refine sl_nil ⟨.nil, ?_⟩
  refine sa_one 3 (by kernel_rfl) rfl ?_
  refine sl_callp rfl rfl cal_18 (rjoin_ok l h1) ?_ ?_
  · repeat constructor
  refine sl_nil ⟨.nil, ?_⟩
  refine sa_take 4 rfl rfl (by kernel_rfl) .nil (pu_struct_eq rfl rfl rfl ag_25 eg_25 ek_25 rfl) ?_
  refine sa_set 18 (.val (.bool true)) (tt_ivl (x := joinL l) rfl) ?_
  refine sa_take 5 rfl rfl (by kernel_rfl) .nil (pu_mv rfl rfl) ?_
  refine sa_take_y 6 rfl rfl rfl rfl (rfl) (by kernel_rfl) .nil (pu_mv rfl rfl) ?_
  refine sa_take_y 8 rfl rfl rfl rfl (rfl) (by kernel_rfl) .nil (pu_mv rfl rfl) ?_
  refine sa_one 7 (by kernel_rfl) rfl ?_
  refine sl_guard_y rfl rfl rfl (rfl) ?_
  refine sl_callp rfl rfl cal_19 (imeet_ok l h1) ?_ ?_
  · repeat constructor
  refine sl_nil ⟨.nil, ?_⟩
  refine sa_one 9 (by kernel_rfl) rfl ?_
  refine sl_guard_y rfl rfl rfl (rfl) ?_
  refine sl_callp rfl rfl cal_20 (rmeet_ok l h1) ?_ ?_
  · repeat constructor
  refine sl_nil ⟨.nil, ?_⟩
  refine sa_take_y 10 rfl rfl rfl rfl (rfl) (by kernel_rfl) .nil (pu_struct_eq rfl rfl rfl ag_25 eg_25 ek_25 rfl) ?_
  refine sa_set 24 (.val (.bool true)) (tt_ivl (x := meetL l) rfl) ?_
  refine sa_take 11 rfl rfl (by kernel_rfl) .nil (pu_pk_t rfl rfl (rfl) rfl) ?_
  refine sa_take 12 rfl rfl (by kernel_rfl) .nil (pu_mv rfl rfl) ?_
  refine sa_take_y 13 rfl rfl rfl rfl (rfl) (by kernel_rfl) .nil (pu_load_rpn rfl rfl ag_25 sz_25 (Nat.le_of_ble_eq_true rfl)) ?_
  refine sa_take_y 14 rfl rfl rfl rfl (rfl) (by kernel_rfl) .nil (pu_load_rpn rfl rfl ag_25 sz_25 (Nat.le_of_ble_eq_true rfl)) ?_
  refine sa_take_y 16 rfl rfl rfl rfl (rfl) (by kernel_rfl) .nil (pu_load_rpn rfl rfl ag_25 sz_25 (Nat.le_of_ble_eq_true rfl)) ?_
  refine sa_take_y 17 rfl rfl rfl rfl (rfl) (by kernel_rfl) .nil (pu_load_rpn rfl rfl ag_25 sz_25 (Nat.le_of_ble_eq_true rfl)) ?_
  refine sa_one 15 (by kernel_rfl) rfl ?_
  refine sl_guard_y rfl rfl rfl (rfl) ?_
  refine sl_callp rfl rfl cal_10 (iwiden_ok a b) ?_ ?_
  · repeat constructor
  refine sl_nil ⟨.nil, ?_⟩
  refine sa_one 18 (by kernel_rfl) rfl ?_
  refine sl_guard_y rfl rfl rfl (rfl) ?_
  refine sl_callp rfl rfl cal_21 (rwiden_ok a b) ?_ ?_
  · repeat constructor
  refine sl_nil ⟨.nil, ?_⟩
  refine sa_take_y 19 rfl rfl rfl rfl (rfl) (by kernel_rfl) .nil (pu_struct_eq rfl rfl rfl ag_25 eg_25 ek_25 rfl) ?_
  refine sa_set 33 (.val (.bool true)) (tt_ivl (x := widenI a b) rfl) ?_
  refine sa_take 20 rfl rfl (by kernel_rfl) .nil (pu_pk_t rfl rfl (rfl) rfl) ?_
  refine sa_take 21 rfl rfl (by kernel_rfl) .nil (pu_mv rfl rfl) ?_
  refine sa_take_y 22 rfl rfl rfl rfl (rfl) (by kernel_rfl) .nil (pu_load_rpn rfl rfl ag_25 sz_25 (Nat.le_of_ble_eq_true rfl)) ?_
  refine sa_take_y 23 rfl rfl rfl rfl (rfl) (by kernel_rfl) .nil (pu_load_rpn rfl rfl ag_25 sz_25 (Nat.le_of_ble_eq_true rfl)) ?_
  refine sa_take_y 25 rfl rfl rfl rfl (rfl) (by kernel_rfl) .nil (pu_load_rpn rfl rfl ag_25 sz_25 (Nat.le_of_ble_eq_true rfl)) ?_
  refine sa_take_y 26 rfl rfl rfl rfl (rfl) (by kernel_rfl) .nil (pu_load_rpn rfl rfl ag_25 sz_25 (Nat.le_of_ble_eq_true rfl)) ?_
  refine sa_one 24 (by kernel_rfl) rfl ?_
  refine sl_guard_y rfl rfl rfl (rfl) ?_
  refine sl_callp rfl rfl cal_12 (ileq_ok a b) ?_ ?_
  · repeat constructor
  refine sl_nil ⟨.nil, ?_⟩
  refine sa_one 27 (by kernel_rfl) rfl ?_
  refine sl_guard_y rfl rfl rfl (rfl) ?_
  refine sl_callp rfl rfl cal_22 (rleq_ok a b ha hb) ?_ ?_
  · repeat constructor
  refine sl_nil ⟨.nil, ?_⟩
  refine sa_take_y 28 rfl rfl rfl rfl (rfl) (by kernel_rfl) .nil (pu_bool_eq rfl rfl rfl u_4) ?_
  refine sa_set 42 (.val (.bool true)) (congrArg (fun b => D.val (.bool b)) (by simp)) ?_
  refine sa_take 29 rfl rfl (by kernel_rfl) .nil (pu_pk_t rfl rfl (rfl) rfl) ?_
  refine sa_take 30 rfl rfl (by kernel_rfl) .nil (pu_mv rfl rfl) ?_
  refine sa_take_y 31 rfl rfl rfl rfl (rfl) (by kernel_rfl) .nil (pu_load_rpn rfl rfl ag_25 sz_25 (Nat.le_of_ble_eq_true rfl)) ?_
  refine sa_take_y 32 rfl rfl rfl rfl (rfl) (by kernel_rfl) .nil (pu_mv rfl rfl) ?_
  refine sa_take_y 34 rfl rfl rfl rfl (rfl) (by kernel_rfl) .nil (pu_load_rpn rfl rfl ag_25 sz_25 (Nat.le_of_ble_eq_true rfl)) ?_
  refine sa_take_y 35 rfl rfl rfl rfl (rfl) (by kernel_rfl) .nil (pu_mv rfl rfl) ?_
  refine sa_one 33 (by kernel_rfl) rfl ?_
  refine sl_guard_y rfl rfl rfl (rfl) ?_
  refine sl_callp rfl rfl cal_14 (ihas_ok a n) ?_ ?_
  · repeat constructor
  refine sl_nil ⟨.nil, ?_⟩
  refine sa_one 36 (by kernel_rfl) rfl ?_
  refine sl_guard_y rfl rfl rfl (rfl) ?_
  refine sl_callp rfl rfl cal_23 (rhas_ok a n) ?_ ?_
  · repeat constructor
  refine sl_nil ⟨.nil, ?_⟩
  refine sa_take_y 37 rfl rfl rfl rfl (rfl) (by kernel_rfl) .nil (pu_bool_eq rfl rfl rfl u_4) ?_
  refine sa_set 51 (.val (.bool true)) (congrArg (fun b => D.val (.bool b)) (by simp)) ?_
  refine sa_take 38 rfl rfl (by kernel_rfl) .nil (pu_pk_t rfl rfl (rfl) rfl) ?_
  refine sa_take 39 rfl rfl (by kernel_rfl) .nil (pu_mv rfl rfl) ?_
  refine sa_take_y 40 rfl rfl rfl rfl (rfl) (by kernel_rfl) .nil (pu_load_rpn rfl rfl ag_25 sz_25 (Nat.le_of_ble_eq_true rfl)) ?_
  refine sa_take_y 42 rfl rfl rfl rfl (rfl) (by kernel_rfl) .nil (pu_load_rpn rfl rfl ag_25 sz_25 (Nat.le_of_ble_eq_true rfl)) ?_
  refine sa_one 41 (by kernel_rfl) rfl ?_
  refine sl_guard_y rfl rfl rfl (rfl) ?_
  refine sl_callp rfl rfl cal_17 (itext_ok a ha) ?_ ?_
  · repeat constructor
  refine sl_nil ⟨.nil, ?_⟩
  refine sa_one 43 (by kernel_rfl) rfl ?_
  refine sl_guard_y rfl rfl rfl (rfl) ?_
  refine sl_callp rfl rfl cal_24 (rtext_ok a ha) ?_ ?_
  · repeat constructor
  refine sl_nil ⟨.nil, ?_⟩
  refine sa_take_y 44 rfl rfl rfl rfl (rfl) (by kernel_rfl) .nil (pu_str rfl rfl rfl rfl) ?_
  refine sa_set 58 (.val (.bool true)) (tt_str (x := textI a) rfl) ?_
  refine sa_take 45 rfl rfl (by kernel_rfl) .nil (pu_pk_t rfl rfl (rfl) rfl) ?_
  refine sa_take 46 rfl rfl (by kernel_rfl) .nil (pu_mv rfl rfl) ?_
  first
    | refine sa_take_y 47 rfl rfl rfl rfl (rfl) (by kernel_rfl) .nil (pu_fieldAddr_ptr rfl rfl fo_25_1) ?_
    | refine sa_take_y 47 rfl rfl rfl rfl (rfl) (by kernel_rfl) .nil (pu_fieldAddr_rp rfl rfl fo_25_1) ?_
    | refine sa_take_y 47 rfl rfl rfl rfl (rfl) (by kernel_rfl) .nil (pu_fieldAddr_ref rfl rfl fo_25_1) ?_
  refine sa_take_y 48 rfl rfl rfl rfl (rfl) (by kernel_rfl) .nil (pu_load_rp1 rfl rfl ag_2 rfl) ?_
  first
    | refine sa_take_y 49 rfl rfl rfl rfl (rfl) (by kernel_rfl) .nil (pu_fieldAddr_ptr rfl rfl fo_25_2) ?_
    | refine sa_take_y 49 rfl rfl rfl rfl (rfl) (by kernel_rfl) .nil (pu_fieldAddr_rp rfl rfl fo_25_2) ?_
    | refine sa_take_y 49 rfl rfl rfl rfl (rfl) (by kernel_rfl) .nil (pu_fieldAddr_ref rfl rfl fo_25_2) ?_
  refine sa_take_y 50 rfl rfl rfl rfl (rfl) (by kernel_rfl) .nil (pu_load_rp1 rfl rfl ag_2 rfl) ?_
  first
    | refine sa_take_y 52 rfl rfl rfl rfl (rfl) (by kernel_rfl) .nil (pu_fieldAddr_ptr rfl rfl fo_25_1) ?_
    | refine sa_take_y 52 rfl rfl rfl rfl (rfl) (by kernel_rfl) .nil (pu_fieldAddr_rp rfl rfl fo_25_1) ?_
    | refine sa_take_y 52 rfl rfl rfl rfl (rfl) (by kernel_rfl) .nil (pu_fieldAddr_ref rfl rfl fo_25_1) ?_
  refine sa_take_y 53 rfl rfl rfl rfl (rfl) (by kernel_rfl) .nil (pu_load_rp1 rfl rfl ag_2 rfl) ?_
  first
    | refine sa_take_y 54 rfl rfl rfl rfl (rfl) (by kernel_rfl) .nil (pu_fieldAddr_ptr rfl rfl fo_25_2) ?_
    | refine sa_take_y 54 rfl rfl rfl rfl (rfl) (by kernel_rfl) .nil (pu_fieldAddr_rp rfl rfl fo_25_2) ?_
    | refine sa_take_y 54 rfl rfl rfl rfl (rfl) (by kernel_rfl) .nil (pu_fieldAddr_ref rfl rfl fo_25_2) ?_
  refine sa_take_y 55 rfl rfl rfl rfl (rfl) (by kernel_rfl) .nil (pu_load_rp1 rfl rfl ag_2 rfl) ?_
  refine sa_one 51 (by kernel_rfl) rfl ?_
  refine sl_guard_y rfl rfl rfl (rfl) ?_
  refine sl_callp rfl rfl cal_13 (iof_ok a.lo a.hi) ?_ ?_
  · repeat constructor
  refine sl_nil ⟨.nil, ?_⟩
  refine sa_one 56 (by kernel_rfl) rfl ?_
  refine sl_guard_y rfl rfl rfl (rfl) ?_
  refine sl_callp rfl rfl cal_25 (rof_ok a.lo a.hi) ?_ ?_
  · repeat constructor
  refine sl_nil ⟨.nil, ?_⟩
  refine sa_take_y 57 rfl rfl rfl rfl (rfl) (by kernel_rfl) .nil (pu_struct_eq rfl rfl rfl ag_25 eg_25 ek_25 rfl) ?_
  refine sa_set 71 (.val (.bool true)) (tt_ivl (x := ofI a.lo a.hi) rfl) ?_
  refine sa_take 58 rfl rfl (by kernel_rfl) .nil (pu_pk_t rfl rfl (rfl) rfl) ?_
  refine sa_take 59 rfl rfl (by kernel_rfl) .nil (pu_mv rfl rfl) ?_
  refine sa_take_y 60 rfl rfl rfl rfl (rfl) (by kernel_rfl) .nil (pu_mv rfl rfl) ?_
  refine sa_take_y 62 rfl rfl rfl rfl (rfl) (by kernel_rfl) .nil (pu_mv rfl rfl) ?_
  refine sa_take_y 63 rfl rfl rfl rfl (rfl) (by kernel_rfl) .nil (pu_mv rfl rfl) ?_
  refine sa_one 61 (by kernel_rfl) rfl ?_
  refine sl_guard_y rfl rfl rfl (rfl) ?_
  refine sl_callp rfl rfl cal_16 (iconst_ok n) ?_ ?_
  · repeat constructor
  refine sl_nil ⟨.nil, ?_⟩
  refine sa_one 64 (by kernel_rfl) rfl ?_
  refine sl_guard_y rfl rfl rfl (rfl) ?_
  refine sl_callp rfl rfl cal_25 (rof_ok n n) ?_ ?_
  · repeat constructor
  refine sl_nil ⟨.nil, ?_⟩
  refine sa_take_y 65 rfl rfl rfl rfl (rfl) (by kernel_rfl) .nil (pu_struct_eq rfl rfl rfl ag_25 eg_25 ek_25 rfl) ?_
  refine sa_set 79 (.val (.bool true)) (tt_ivl (x := ofI n n) rfl) ?_
  refine sa_take 66 rfl rfl (by kernel_rfl) .nil (pu_pk_t rfl rfl (rfl) rfl) ?_
  refine sa_take 67 rfl rfl (by kernel_rfl) .nil (pu_mv rfl rfl) ?_
  refine sa_one 68 (by kernel_rfl) rfl ?_
  refine sl_guard_y rfl rfl rfl (rfl) ?_
  refine sl_callp rfl rfl cal_15 (itop_ok) ?_ ?_
  · repeat constructor
  refine sl_nil ⟨.nil, ?_⟩
  refine sa_one 69 (by kernel_rfl) rfl ?_
  refine sl_guard_y rfl rfl rfl (rfl) ?_
  refine sl_callp rfl rfl cal_26 (rtop_ok) ?_ ?_
  · repeat constructor
  refine sl_nil ⟨.nil, ?_⟩
  refine sa_take_y 70 rfl rfl rfl rfl (rfl) (by kernel_rfl) .nil (pu_struct_eq rfl rfl rfl ag_25 eg_25 ek_25 rfl) ?_
  refine sa_set 84 (.val (.bool true)) (tt_ivl (x := topI) rfl) ?_
  refine sa_take 71 rfl rfl (by kernel_rfl) .nil (pu_pk_t rfl rfl (rfl) rfl) ?_
  refine sa_one 72 (by kernel_rfl) rfl ?_
  refine sl_as rfl rfl rfl ?_
  refine sl_nil ⟨.nil, ?_⟩
  refine sa_done (by kernel_rfl) ?_
  refine sw_ret ⟨rfl, _, _, res_one rfl rfl, ?_, ⟨rfl, rfl⟩⟩
  repeat constructor

end Go.Proofs.YtipacoopapjdpaaDoor
