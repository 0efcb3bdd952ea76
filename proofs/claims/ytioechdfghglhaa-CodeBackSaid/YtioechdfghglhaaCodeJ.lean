/- Walks: printed by a program of this session out of its script CodeJ. -/
import Derived.Test.YtioechdfghglhaaSlT
import Derived.Test.YtioechdfghglhaaP7
import Derived.Test.YtioechdfghglhaaCodeI
namespace Go.Proofs.Ytioechdfghglhaa
set_option linter.unusedVariables false
set_option linter.unusedSimpArgs false
set_option maxRecDepth 4000
set_option maxHeartbeats 4000000
open Go Go.RowKit SL


theorem lightS_ok (s : Smy) (σ : List Chunk) : FSpec Try.prog 76 [.val (smyV s)] σ (fun d σ' => ∃ b, d = .val (.bool b) ∧ (b = true → SmyLight s) ∧ σ' = σ) := by
  refine spec_of_sw Try.func76 rfl ?_
  refine sw_seq ?_
  refine sl_region ?_
  refine sl_bx_imm rfl rfl rfl rfl rfl ?_
  refine sl_as rfl rfl rfl ?_
  refine sl_nil ?_
  refine sw_seq ?_
  refine sw_seq ?_
  refine sl_region ?_
  first
    | refine sl_fieldAddr_ptr rfl rfl rfl fo_72_0 ?_
    | refine sl_fieldAddr_rp rfl rfl rfl fo_72_0 ?_
    | refine sl_fieldAddr_ref rfl rfl rfl fo_72_0 ?_
  first
    | refine sl_load_rp1 rfl rfl rfl ag_67 rfl ?_
    | refine sl_load_blk1 rfl rfl rfl ag_67 (by first | exact List.Mem.head _ | exact List.Mem.tail _ (List.Mem.head _) | exact List.Mem.tail _ (List.Mem.tail _ (List.Mem.head _)) | exact List.Mem.tail _ (List.Mem.tail _ (List.Mem.tail _ (List.Mem.head _))) | exact List.Mem.tail _ (List.Mem.tail _ (List.Mem.tail _ (List.Mem.tail _ (List.Mem.head _)))) | exact List.Mem.tail _ (List.Mem.tail _ (List.Mem.tail _ (List.Mem.tail _ (List.Mem.tail _ (List.Mem.head _)))))) rfl ?_
  first
    | refine sl_len rfl rfl rfl ⟨_, u_67⟩ ?_
    | refine sl_len_sl rfl rfl rfl ⟨_, u_67⟩ ?_
  refine sl_bin rfl rfl rfl rfl rfl ?_
  refine sl_mv rfl rfl rfl ?_
  refine sl_case_at 8 rfl (fun h1 => ?_) (fun h1 => ?_)
  · refine sl_guard_n rfl rfl rfl h1 ?_
    refine sl_guard_n rfl rfl rfl h1 ?_
    refine sl_guard_n rfl rfl rfl h1 ?_
    refine sl_guard_n rfl rfl rfl h1 ?_
    refine sl_pk_t rfl rfl rfl h1 rfl ?_
    refine sl_nil ?_
    refine sw_true rfl (rfl) ?_
    refine sw_seq ?_
    refine sl_region ?_
    refine sl_as rfl rfl rfl ?_
    refine sl_nil ?_
    refine sw_ret ⟨rfl, _, _, res_one rfl rfl, ?_, ⟨false, rfl, fun h => absurd h (by decide), rfl⟩⟩
    repeat (first | exact Sub.refl _ | exact Sub.none _ | refine Sub.p0 ?_ | refine Sub.p1 ?_ | refine Sub.p2 ?_ | refine Sub.p3 ?_ | refine Sub.p4 ?_ | refine Sub.p5 ?_ | refine Sub.p6 ?_ | refine Sub.drop ?_)
  · refine sl_guard_y rfl rfl rfl h1 ?_
    first
      | refine sl_fieldAddr_ptr rfl rfl rfl fo_72_3 ?_
      | refine sl_fieldAddr_rp rfl rfl rfl fo_72_3 ?_
      | refine sl_fieldAddr_ref rfl rfl rfl fo_72_3 ?_
    refine sl_guard_y rfl rfl rfl h1 ?_
    first
      | refine sl_load_rp1 rfl rfl rfl ag_70 rfl ?_
      | refine sl_load_blk1 rfl rfl rfl ag_70 (by first | exact List.Mem.head _ | exact List.Mem.tail _ (List.Mem.head _) | exact List.Mem.tail _ (List.Mem.tail _ (List.Mem.head _)) | exact List.Mem.tail _ (List.Mem.tail _ (List.Mem.tail _ (List.Mem.head _))) | exact List.Mem.tail _ (List.Mem.tail _ (List.Mem.tail _ (List.Mem.tail _ (List.Mem.head _)))) | exact List.Mem.tail _ (List.Mem.tail _ (List.Mem.tail _ (List.Mem.tail _ (List.Mem.tail _ (List.Mem.head _)))))) rfl ?_
    refine sl_guard_y rfl rfl rfl h1 ?_
    first
      | refine sl_len rfl rfl rfl ⟨_, u_70⟩ ?_
      | refine sl_len_sl rfl rfl rfl ⟨_, u_70⟩ ?_
    refine sl_guard_y rfl rfl rfl h1 ?_
    refine sl_bin rfl rfl rfl rfl rfl ?_
    refine sl_pk_f rfl rfl rfl h1 rfl ?_
    refine sl_nil ?_
    refine sw_cond rfl (fun h2 => ?_) (fun h2 => ?_)
    · refine sw_seq ?_
      refine sl_region ?_
      refine sl_as rfl rfl rfl ?_
      refine sl_nil ?_
      refine sw_ret ⟨rfl, _, _, res_one rfl rfl, ?_, ⟨false, rfl, fun h => absurd h (by decide), rfl⟩⟩
      repeat (first | exact Sub.refl _ | exact Sub.none _ | refine Sub.p0 ?_ | refine Sub.p1 ?_ | refine Sub.p2 ?_ | refine Sub.p3 ?_ | refine Sub.p4 ?_ | refine Sub.p5 ?_ | refine Sub.p6 ?_ | refine Sub.drop ?_)
    · have h1 : s.alarms.length ≤ 10 := by have := of_decide_eq_false h1; simp only [List.length_map] at this; omega
      have h2 : s.mod.length ≤ 10 := by have := of_decide_eq_false h2; simp only [List.length_map] at this; omega
      refine sw_skip ?_
      refine sw_seq ?_
      refine sw_seq ?_
      refine sl_region ?_
      refine sl_as rfl rfl rfl ?_
      refine sl_nil ?_
      refine sw_block ?_
      refine sw_loopw (fun nX sX δX σX => ∃ (k : Nat), (s.mod.length - k) = nX ∧ sX = ⟨29, (.cons 1 (.rp (smyCells s)) (.cons 3 (.val (.int .i64 (k : Int))) .nil))⟩ ∧ δX = [] ∧ σX = σ ∧ k ≤ s.mod.length ∧ ∀ m ∈ s.mod.take k, m.name.length ≤ 50) ?_ ?_
      · refine ⟨_, _, _, ?_, ?_, 0, rfl, rfl, rfl, rfl, Nat.zero_le _, by simp⟩
        · refine ⟨rfl, ?_⟩; repeat (first | exact WkL.nil | refine WkL.cons (Weak.refl _) ?_ | refine WkL.cons (Weak.toV rfl) ?_ | refine WkL.cons (Weak.ref _) ?_ | refine WkL.cons (Weak.rp_agg _) ?_)
        · repeat (first | exact Sub.refl _ | exact Sub.none _ | refine Sub.p0 ?_ | refine Sub.p1 ?_ | refine Sub.p2 ?_ | refine Sub.p3 ?_ | refine Sub.p4 ?_ | refine Sub.p5 ?_ | refine Sub.p6 ?_ | refine Sub.drop ?_)
      · rintro nX sX δX σX ⟨k, rfl, rfl, rfl, rfl, hk0, hss⟩
        refine sw_seq ?_
        refine sw_seq ?_
        refine sl_region ?_
        refine sl_mv rfl rfl rfl ?_
        first
          | refine sl_fieldAddr_ptr rfl rfl rfl fo_72_3 ?_
          | refine sl_fieldAddr_rp rfl rfl rfl fo_72_3 ?_
          | refine sl_fieldAddr_ref rfl rfl rfl fo_72_3 ?_
        first
          | refine sl_load_rp1 rfl rfl rfl ag_70 rfl ?_
          | refine sl_load_blk1 rfl rfl rfl ag_70 (by first | exact List.Mem.head _ | exact List.Mem.tail _ (List.Mem.head _) | exact List.Mem.tail _ (List.Mem.tail _ (List.Mem.head _)) | exact List.Mem.tail _ (List.Mem.tail _ (List.Mem.tail _ (List.Mem.head _))) | exact List.Mem.tail _ (List.Mem.tail _ (List.Mem.tail _ (List.Mem.tail _ (List.Mem.head _)))) | exact List.Mem.tail _ (List.Mem.tail _ (List.Mem.tail _ (List.Mem.tail _ (List.Mem.tail _ (List.Mem.head _)))))) rfl ?_
        first
          | refine sl_len rfl rfl rfl ⟨_, u_70⟩ ?_
          | refine sl_len_sl rfl rfl rfl ⟨_, u_70⟩ ?_
        refine sl_bin rfl rfl rfl rfl rfl ?_
        refine sl_nil ?_
        refine sw_cond rfl (fun hk => ?_) (fun hk => ?_)
        · have hk : k < s.mod.length := by simpa using hk
          refine sw_skip ?_
          refine sw_seq ?_
          refine sw_block ?_
          refine sw_seq ?_
          refine sl_region ?_
          first
            | refine sl_fieldAddr_ptr rfl rfl rfl fo_72_3 ?_
            | refine sl_fieldAddr_rp rfl rfl rfl fo_72_3 ?_
            | refine sl_fieldAddr_ref rfl rfl rfl fo_72_3 ?_
          first
            | refine sl_load_rp1 rfl rfl rfl ag_70 rfl ?_
            | refine sl_load_blk1 rfl rfl rfl ag_70 (by first | exact List.Mem.head _ | exact List.Mem.tail _ (List.Mem.head _) | exact List.Mem.tail _ (List.Mem.tail _ (List.Mem.head _)) | exact List.Mem.tail _ (List.Mem.tail _ (List.Mem.tail _ (List.Mem.head _))) | exact List.Mem.tail _ (List.Mem.tail _ (List.Mem.tail _ (List.Mem.tail _ (List.Mem.head _)))) | exact List.Mem.tail _ (List.Mem.tail _ (List.Mem.tail _ (List.Mem.tail _ (List.Mem.tail _ (List.Mem.head _)))))) rfl ?_
          refine sl_mv rfl rfl rfl ?_
          refine sl_indexAddr' rfl rfl rfl rfl u_70 sz_127 (by omega) (idx_map hk) rfl ?_
          first
            | refine sl_fieldAddr_ptr rfl rfl rfl fo_127_0 ?_
            | refine sl_fieldAddr_rp rfl rfl rfl fo_127_0 ?_
            | refine sl_fieldAddr_ref rfl rfl rfl fo_127_0 ?_
          first
            | refine sl_load_rp1 rfl rfl rfl ag_9 rfl ?_
            | refine sl_load_blk1 rfl rfl rfl ag_9 (by first | exact List.Mem.head _ | exact List.Mem.tail _ (List.Mem.head _) | exact List.Mem.tail _ (List.Mem.tail _ (List.Mem.head _)) | exact List.Mem.tail _ (List.Mem.tail _ (List.Mem.tail _ (List.Mem.head _))) | exact List.Mem.tail _ (List.Mem.tail _ (List.Mem.tail _ (List.Mem.tail _ (List.Mem.head _)))) | exact List.Mem.tail _ (List.Mem.tail _ (List.Mem.tail _ (List.Mem.tail _ (List.Mem.tail _ (List.Mem.head _)))))) rfl ?_
          refine sl_len_str rfl rfl rfl u_9 ?_
          refine sl_bin rfl rfl rfl rfl rfl ?_
          refine sl_nil ?_
          refine sw_cond rfl (fun hlong => ?_) (fun hlong => ?_)
          · refine sw_seq ?_
            refine sl_region ?_
            refine sl_as rfl rfl rfl ?_
            refine sl_nil ?_
            refine sw_ret ⟨rfl, _, _, res_one rfl rfl, ?_, ⟨false, rfl, fun h => absurd h (by decide), rfl⟩⟩
            repeat (first | exact Sub.refl _ | exact Sub.none _ | refine Sub.p0 ?_ | refine Sub.p1 ?_ | refine Sub.p2 ?_ | refine Sub.p3 ?_ | refine Sub.p4 ?_ | refine Sub.p5 ?_ | refine Sub.p6 ?_ | refine Sub.drop ?_)
          · have hs1 : s.mod[k].name.length ≤ 50 := by have := of_decide_eq_false hlong; omega
            refine sw_skip ?_
            refine sl_region ?_
            refine sl_mv rfl rfl rfl ?_
            first
              | refine sl_inc rfl rfl rfl rfl (by omega) ?_
              | refine sl_add rfl rfl rfl rfl (by constructor <;> omega) ?_
              | refine sl_bin rfl rfl rfl rfl rfl ?_
            refine sl_as rfl rfl rfl ?_
            refine sl_nil ?_
            refine ⟨_, by omega, _, _, ?_, ?_, k + 1, rfl, rfl, rfl, rfl, by omega, all_take_snoc hss hk hs1⟩
            · refine ⟨rfl, ?_⟩; repeat (first | exact WkL.nil | refine WkL.cons (Weak.refl _) ?_ | refine WkL.cons (Weak.toV rfl) ?_ | refine WkL.cons (Weak.ref _) ?_ | refine WkL.cons (Weak.rp_agg _) ?_)
            · repeat (first | exact Sub.refl _ | exact Sub.none _ | refine Sub.p0 ?_ | refine Sub.p1 ?_ | refine Sub.p2 ?_ | refine Sub.p3 ?_ | refine Sub.p4 ?_ | refine Sub.p5 ?_ | refine Sub.p6 ?_ | refine Sub.drop ?_)
        · have hk : k = s.mod.length := by have h9 : ¬ k < s.mod.length := (by simpa using hk); omega
          subst hk
          rw [List.take_length] at hss
          refine sw_exit ?_
          refine sw_seq ?_
          refine sl_region ?_
          refine sl_as rfl rfl rfl ?_
          refine sl_nil ?_
          refine sw_ret ⟨rfl, _, _, res_one rfl rfl, ?_, ⟨true, rfl, fun _ => ⟨h1, h2, hss⟩, rfl⟩⟩
          repeat (first | exact Sub.refl _ | exact Sub.none _ | refine Sub.p0 ?_ | refine Sub.p1 ?_ | refine Sub.p2 ?_ | refine Sub.p3 ?_ | refine Sub.p4 ?_ | refine Sub.p5 ?_ | refine Sub.p6 ?_ | refine Sub.drop ?_)

theorem light_ok (ps : List Prt) (σ : List Chunk) : FSpec Try.prog 35 [.val (.list (ps.map prtV))] σ (fun d σ' => ∃ b, d = .val (.bool b) ∧ (b = true → ps.length ≤ 12 ∧ ∀ p ∈ ps, PrtLight p) ∧ σ' = σ) := by
  refine spec_of_sw Try.func35 rfl ?_
  refine sw_seq ?_
  refine sl_region ?_
  refine sl_as rfl rfl rfl ?_
  refine sl_nil ?_
  refine sw_seq ?_
  refine sw_seq ?_
  refine sl_region ?_
  refine sl_mv rfl rfl rfl ?_
  first
    | refine sl_len rfl rfl rfl ⟨_, u_64⟩ ?_
    | refine sl_len_sl rfl rfl rfl ⟨_, u_64⟩ ?_
  refine sl_bin rfl rfl rfl rfl rfl ?_
  refine sl_nil ?_
  refine sw_cond rfl (fun h1 => ?_) (fun h1 => ?_)
  · refine sw_seq ?_
    refine sl_region ?_
    refine sl_as rfl rfl rfl ?_
    refine sl_nil ?_
    refine sw_ret ⟨rfl, _, _, res_one rfl rfl, ?_, ⟨false, rfl, fun h => absurd h (by decide), rfl⟩⟩
    repeat (first | exact Sub.refl _ | exact Sub.none _ | refine Sub.p0 ?_ | refine Sub.p1 ?_ | refine Sub.p2 ?_ | refine Sub.p3 ?_ | refine Sub.p4 ?_ | refine Sub.p5 ?_ | refine Sub.p6 ?_ | refine Sub.drop ?_)
  · have h1 : ps.length ≤ 12 := by have := of_decide_eq_false h1; simp only [List.length_map] at this; omega
    refine sw_skip ?_
    refine sw_seq ?_
    refine sw_seq ?_
    refine sl_region ?_
    refine sl_as rfl rfl rfl ?_
    refine sl_nil ?_
    refine sw_block ?_
    refine sw_loopw (fun nX sX δX σX => ∃ (k : Nat), (ps.length - k) = nX ∧ sX = ⟨29, (.cons 0 (.val (.list (ps.map prtV))) (.cons 3 (.val (.int .i64 (k : Int))) .nil))⟩ ∧ δX = [] ∧ σX = σ ∧ k ≤ ps.length ∧ ∀ m ∈ ps.take k, PrtLight m) ?_ ?_
    · refine ⟨_, _, _, ?_, ?_, 0, rfl, rfl, rfl, rfl, Nat.zero_le _, by simp⟩
      · refine ⟨rfl, ?_⟩; repeat (first | exact WkL.nil | refine WkL.cons (Weak.refl _) ?_ | refine WkL.cons (Weak.toV rfl) ?_ | refine WkL.cons (Weak.ref _) ?_ | refine WkL.cons (Weak.rp_agg _) ?_)
      · repeat (first | exact Sub.refl _ | exact Sub.none _ | refine Sub.p0 ?_ | refine Sub.p1 ?_ | refine Sub.p2 ?_ | refine Sub.p3 ?_ | refine Sub.p4 ?_ | refine Sub.p5 ?_ | refine Sub.p6 ?_ | refine Sub.drop ?_)
    · rintro nX sX δX σX ⟨k, rfl, rfl, rfl, rfl, hk0, hss⟩
      refine sw_seq ?_
      refine sw_seq ?_
      refine sl_region ?_
      refine sl_mv rfl rfl rfl ?_
      refine sl_mv rfl rfl rfl ?_
      first
        | refine sl_len rfl rfl rfl ⟨_, u_64⟩ ?_
        | refine sl_len_sl rfl rfl rfl ⟨_, u_64⟩ ?_
      refine sl_bin rfl rfl rfl rfl rfl ?_
      refine sl_nil ?_
      refine sw_cond rfl (fun hk => ?_) (fun hk => ?_)
      · have hk : k < ps.length := by simpa using hk
        refine sw_skip ?_
        refine sw_seq ?_
        refine sw_block ?_
        refine sw_seq ?_
        refine sl_region ?_
        refine sl_mv rfl rfl rfl ?_
        refine sl_mv rfl rfl rfl ?_
        refine sl_indexAddr' rfl rfl rfl rfl u_64 sz_74 (by omega) (idx_map hk) rfl ?_
        first
          | refine sl_fieldAddr_ptr rfl rfl rfl fo_74_2 ?_
          | refine sl_fieldAddr_rp rfl rfl rfl fo_74_2 ?_
          | refine sl_fieldAddr_ref rfl rfl rfl fo_74_2 ?_
        first
          | refine sl_load_rp1 rfl rfl rfl ag_9 rfl ?_
          | refine sl_load_blk1 rfl rfl rfl ag_9 (by first | exact List.Mem.head _ | exact List.Mem.tail _ (List.Mem.head _) | exact List.Mem.tail _ (List.Mem.tail _ (List.Mem.head _)) | exact List.Mem.tail _ (List.Mem.tail _ (List.Mem.tail _ (List.Mem.head _))) | exact List.Mem.tail _ (List.Mem.tail _ (List.Mem.tail _ (List.Mem.tail _ (List.Mem.head _)))) | exact List.Mem.tail _ (List.Mem.tail _ (List.Mem.tail _ (List.Mem.tail _ (List.Mem.tail _ (List.Mem.head _)))))) rfl ?_
        refine sl_len_str rfl rfl rfl u_9 ?_
        refine sl_bin rfl rfl rfl rfl rfl ?_
        refine sl_mv rfl rfl rfl ?_
        refine sl_case_at 20 rfl (fun h2 => ?_) (fun h2 => ?_)
        · refine sl_guard_n rfl rfl rfl h2 ?_
          refine sl_guard_n rfl rfl rfl h2 ?_
          refine sl_guard_n rfl rfl rfl h2 ?_
          refine sl_guard_n rfl rfl rfl h2 ?_
          refine sl_guard_n rfl rfl rfl h2 ?_
          refine sl_guard_n rfl rfl rfl h2 ?_
          refine sl_guard_n rfl rfl rfl h2 ?_
          refine sl_pk_t rfl rfl rfl h2 rfl ?_
          refine sl_nil ?_
          refine sw_true rfl (rfl) ?_
          refine sw_seq ?_
          refine sl_region ?_
          refine sl_as rfl rfl rfl ?_
          refine sl_nil ?_
          refine sw_ret ⟨rfl, _, _, res_one rfl rfl, ?_, ⟨false, rfl, fun h => absurd h (by decide), rfl⟩⟩
          repeat (first | exact Sub.refl _ | exact Sub.none _ | refine Sub.p0 ?_ | refine Sub.p1 ?_ | refine Sub.p2 ?_ | refine Sub.p3 ?_ | refine Sub.p4 ?_ | refine Sub.p5 ?_ | refine Sub.p6 ?_ | refine Sub.drop ?_)
        · have h3 : ps[k].t.length ≤ 100 := by have := of_decide_eq_false h2; omega
          refine sl_guard_y rfl rfl rfl h2 ?_
          refine sl_mv rfl rfl rfl ?_
          refine sl_guard_y rfl rfl rfl h2 ?_
          refine sl_mv rfl rfl rfl ?_
          refine sl_guard_y rfl rfl rfl h2 ?_
          refine sl_indexAddr' rfl rfl rfl rfl u_64 sz_74 (by omega) (idx_map hk) rfl ?_
          refine sl_guard_y rfl rfl rfl h2 ?_
          first
            | refine sl_fieldAddr_ptr rfl rfl rfl fo_74_3 ?_
            | refine sl_fieldAddr_rp rfl rfl rfl fo_74_3 ?_
            | refine sl_fieldAddr_ref rfl rfl rfl fo_74_3 ?_
          refine sl_guard_y rfl rfl rfl h2 ?_
          first
            | refine sl_load_rpn rfl rfl rfl ag_72 sz_72 (Nat.le_of_ble_eq_true rfl) ?_
            | refine sl_load_blkn rfl rfl rfl ag_72 sz_72 (by first | exact List.Mem.head _ | exact List.Mem.tail _ (List.Mem.head _) | exact List.Mem.tail _ (List.Mem.tail _ (List.Mem.head _)) | exact List.Mem.tail _ (List.Mem.tail _ (List.Mem.tail _ (List.Mem.head _))) | exact List.Mem.tail _ (List.Mem.tail _ (List.Mem.tail _ (List.Mem.tail _ (List.Mem.head _)))) | exact List.Mem.tail _ (List.Mem.tail _ (List.Mem.tail _ (List.Mem.tail _ (List.Mem.tail _ (List.Mem.head _)))))) (Nat.le_of_ble_eq_true rfl) ?_
            | refine sl_load_ref rfl rfl rfl ag_72 sz_72 (Nat.le_of_ble_eq_true rfl) ?_
          refine sl_guard_y rfl rfl rfl h2 ?_
          refine sl_callf rfl rfl cal_76 (lightS_ok ps[k].s σX) ?_ ?_ ?_ (fun _ _ h => h.elim)
          · repeat (first | exact Weaks.nil | refine Weaks.cons (Weak.junk _) ?_ | refine Weaks.cons (Weak.refl _) ?_ | refine Weaks.cons (Weak.toV rfl) ?_ | refine Weaks.cons (Weak.ref _) ?_ | refine Weaks.cons (Weak.rp_agg _) ?_)
          · repeat (first | exact Sub.refl _ | exact Sub.none _ | refine Sub.p0 ?_ | refine Sub.p1 ?_ | refine Sub.p2 ?_ | refine Sub.p3 ?_ | refine Sub.p4 ?_ | refine Sub.p5 ?_ | refine Sub.p6 ?_ | refine Sub.drop ?_)
          rintro _ _ ⟨b, rfl, hb, rfl⟩
          refine sl_guard_y rfl rfl rfl h2 ?_
          refine sl_not rfl rfl rfl ?_
          refine sl_pk_f rfl rfl rfl h2 rfl ?_
          refine sl_nil ?_
          refine sw_cond rfl (fun h4 => ?_) (fun h4 => ?_)
          · refine sw_seq ?_
            refine sl_region ?_
            refine sl_as rfl rfl rfl ?_
            refine sl_nil ?_
            refine sw_ret ⟨rfl, _, _, res_one rfl rfl, ?_, ⟨false, rfl, fun h => absurd h (by decide), rfl⟩⟩
            repeat (first | exact Sub.refl _ | exact Sub.none _ | refine Sub.p0 ?_ | refine Sub.p1 ?_ | refine Sub.p2 ?_ | refine Sub.p3 ?_ | refine Sub.p4 ?_ | refine Sub.p5 ?_ | refine Sub.p6 ?_ | refine Sub.drop ?_)
          · have hb1 : b = true := by simpa using h4
            refine sw_skip ?_
            refine sl_region ?_
            refine sl_mv rfl rfl rfl ?_
            first
              | refine sl_inc rfl rfl rfl rfl (by omega) ?_
              | refine sl_add rfl rfl rfl rfl (by constructor <;> omega) ?_
              | refine sl_bin rfl rfl rfl rfl rfl ?_
            refine sl_as rfl rfl rfl ?_
            refine sl_nil ?_
            refine ⟨_, by omega, _, _, ?_, ?_, k + 1, rfl, rfl, rfl, rfl, by omega, all_take_snoc hss hk ⟨h3, hb hb1⟩⟩
            · refine ⟨rfl, ?_⟩; repeat (first | exact WkL.nil | refine WkL.cons (Weak.refl _) ?_ | refine WkL.cons (Weak.toV rfl) ?_ | refine WkL.cons (Weak.ref _) ?_ | refine WkL.cons (Weak.rp_agg _) ?_)
            · repeat (first | exact Sub.refl _ | exact Sub.none _ | refine Sub.p0 ?_ | refine Sub.p1 ?_ | refine Sub.p2 ?_ | refine Sub.p3 ?_ | refine Sub.p4 ?_ | refine Sub.p5 ?_ | refine Sub.p6 ?_ | refine Sub.drop ?_)
      · have hk : k = ps.length := by have h9 : ¬ k < ps.length := (by simpa using hk); omega
        subst hk
        rw [List.take_length] at hss
        refine sw_exit ?_
        refine sw_seq ?_
        refine sl_region ?_
        refine sl_as rfl rfl rfl ?_
        refine sl_nil ?_
        refine sw_ret ⟨rfl, _, _, res_one rfl rfl, ?_, ⟨true, rfl, fun _ => ⟨h1, hss⟩, rfl⟩⟩
        repeat (first | exact Sub.refl _ | exact Sub.none _ | refine Sub.p0 ?_ | refine Sub.p1 ?_ | refine Sub.p2 ?_ | refine Sub.p3 ?_ | refine Sub.p4 ?_ | refine Sub.p5 ?_ | refine Sub.p6 ?_ | refine Sub.drop ?_)

/-- put: a part as the document's bytes. -/
theorem put_ok (v : Value) (l : List UInt8) (p : Prt) (σ : List Chunk) (hok : PrtOk p) (hlt : PrtLight p) (hl : l.length + 2000000 ≤ 100000000) :
    FSpec Try.prog 36 [.own v (l.map byteV), .val (prtV p)] (.spare v 1 :: σ) (fun d σ' => ∃ v', d = .own v' ((l ++ encPart p).map byteV) ∧ σ' = .spare v' 1 :: σ) := by
  refine spec_of_sw Try.func36 rfl ?_
  refine sw_seq ?_
  refine sl_region ?_
  refine sl_bx_imm rfl rfl rfl rfl rfl ?_
  refine sl_as rfl rfl rfl ?_
  refine sl_nil ?_
  refine sw_seq ?_
  refine sw_seq ?_
  refine sl_region ?_
  first
    | refine sl_fieldAddr_ptr rfl rfl rfl fo_74_0 ?_
    | refine sl_fieldAddr_rp rfl rfl rfl fo_74_0 ?_
    | refine sl_fieldAddr_ref rfl rfl rfl fo_74_0 ?_
  first
    | refine sl_load_rp1 rfl rfl rfl ag_5 rfl ?_
    | refine sl_load_blk1 rfl rfl rfl ag_5 (by first | exact List.Mem.head _ | exact List.Mem.tail _ (List.Mem.head _) | exact List.Mem.tail _ (List.Mem.tail _ (List.Mem.head _)) | exact List.Mem.tail _ (List.Mem.tail _ (List.Mem.tail _ (List.Mem.head _))) | exact List.Mem.tail _ (List.Mem.tail _ (List.Mem.tail _ (List.Mem.tail _ (List.Mem.head _)))) | exact List.Mem.tail _ (List.Mem.tail _ (List.Mem.tail _ (List.Mem.tail _ (List.Mem.tail _ (List.Mem.head _)))))) rfl ?_
  refine sl_rem rfl rfl rfl rfl (by decide) ?_
  refine sl_set 7 (.val (.int .u8 ((p.what.toNat % 5 : Nat) : Int))) (rem5 p.what) ?_
  refine sl_nil ?_
  refine sw_block ?_
  refine sw_seq ?_
  refine sl_region ?_
  refine sl_bin rfl rfl rfl rfl rfl ?_
  refine sl_as rfl rfl rfl ?_
  refine sl_nil ?_
  refine sw_cond rfl (fun h0 => ?_) (fun h0 => ?_)
  · rw [encPart0 (eq5 h0)]
    refine sw_seq ?_
    refine sl_region ?_
    refine sl_mv rfl rfl rfl ?_
    first
      | refine sl_fieldAddr_ptr rfl rfl rfl fo_74_1 ?_
      | refine sl_fieldAddr_rp rfl rfl rfl fo_74_1 ?_
      | refine sl_fieldAddr_ref rfl rfl rfl fo_74_1 ?_
    first
      | refine sl_load_rp1 rfl rfl rfl ag_37 rfl ?_
      | refine sl_load_blk1 rfl rfl rfl ag_37 (by first | exact List.Mem.head _ | exact List.Mem.tail _ (List.Mem.head _) | exact List.Mem.tail _ (List.Mem.tail _ (List.Mem.head _)) | exact List.Mem.tail _ (List.Mem.tail _ (List.Mem.tail _ (List.Mem.head _))) | exact List.Mem.tail _ (List.Mem.tail _ (List.Mem.tail _ (List.Mem.tail _ (List.Mem.head _)))) | exact List.Mem.tail _ (List.Mem.tail _ (List.Mem.tail _ (List.Mem.tail _ (List.Mem.tail _ (List.Mem.head _)))))) rfl ?_
    refine sl_callf rfl rfl cal_77 (xnum_ok v l p.n σ hok.1 (by omega)) ?_ ?_ ?_ (fun _ _ h => h.elim)
    · repeat (first | exact Weaks.nil | refine Weaks.cons (Weak.junk _) ?_ | refine Weaks.cons (Weak.refl _) ?_ | refine Weaks.cons (Weak.toV rfl) ?_ | refine Weaks.cons (Weak.ref _) ?_ | refine Weaks.cons (Weak.rp_agg _) ?_)
    · repeat (first | exact Sub.refl _ | exact Sub.none _ | refine Sub.p0 ?_ | refine Sub.p1 ?_ | refine Sub.p2 ?_ | refine Sub.p3 ?_ | refine Sub.p4 ?_ | refine Sub.p5 ?_ | refine Sub.p6 ?_ | refine Sub.drop ?_)
    rintro _ _ ⟨v2, rfl, rfl⟩
    refine sl_as rfl rfl rfl ?_
    refine sl_nil ?_
    refine sw_ret ⟨rfl, _, _, res_one rfl rfl, ?_, ⟨v2, rfl, rfl⟩⟩
    repeat (first | exact Sub.refl _ | exact Sub.none _ | refine Sub.p0 ?_ | refine Sub.p1 ?_ | refine Sub.p2 ?_ | refine Sub.p3 ?_ | refine Sub.p4 ?_ | refine Sub.p5 ?_ | refine Sub.p6 ?_ | refine Sub.drop ?_)
  · refine sw_seq ?_
    refine sl_region ?_
    refine sl_bin rfl rfl rfl rfl rfl ?_
    refine sl_as rfl rfl rfl ?_
    refine sl_nil ?_
    refine sw_cond rfl (fun h1 => ?_) (fun h1 => ?_)
    · rw [encPart1 (eq5 h1)]
      refine sw_seq ?_
      refine sl_region ?_
      refine sl_mv rfl rfl rfl ?_
      first
        | refine sl_fieldAddr_ptr rfl rfl rfl fo_74_1 ?_
        | refine sl_fieldAddr_rp rfl rfl rfl fo_74_1 ?_
        | refine sl_fieldAddr_ref rfl rfl rfl fo_74_1 ?_
      first
        | refine sl_load_rp1 rfl rfl rfl ag_37 rfl ?_
        | refine sl_load_blk1 rfl rfl rfl ag_37 (by first | exact List.Mem.head _ | exact List.Mem.tail _ (List.Mem.head _) | exact List.Mem.tail _ (List.Mem.tail _ (List.Mem.head _)) | exact List.Mem.tail _ (List.Mem.tail _ (List.Mem.tail _ (List.Mem.head _))) | exact List.Mem.tail _ (List.Mem.tail _ (List.Mem.tail _ (List.Mem.tail _ (List.Mem.head _)))) | exact List.Mem.tail _ (List.Mem.tail _ (List.Mem.tail _ (List.Mem.tail _ (List.Mem.tail _ (List.Mem.head _)))))) rfl ?_
      refine sl_conv_int rfl rfl rfl is_37 u_2 ?_
      refine sl_callf rfl rfl cal_78 (xint_ok v l (IntKind.i64.wrap p.n) σ (wrap_i64_ok _) (by omega)) ?_ ?_ ?_ (fun _ _ h => h.elim)
      · repeat (first | exact Weaks.nil | refine Weaks.cons (Weak.junk _) ?_ | refine Weaks.cons (Weak.refl _) ?_ | refine Weaks.cons (Weak.toV rfl) ?_ | refine Weaks.cons (Weak.ref _) ?_ | refine Weaks.cons (Weak.rp_agg _) ?_)
      · repeat (first | exact Sub.refl _ | exact Sub.none _ | refine Sub.p0 ?_ | refine Sub.p1 ?_ | refine Sub.p2 ?_ | refine Sub.p3 ?_ | refine Sub.p4 ?_ | refine Sub.p5 ?_ | refine Sub.p6 ?_ | refine Sub.drop ?_)
      rintro _ _ ⟨v2, rfl, rfl⟩
      refine sl_as rfl rfl rfl ?_
      refine sl_nil ?_
      refine sw_ret ⟨rfl, _, _, res_one rfl rfl, ?_, ⟨v2, rfl, rfl⟩⟩
      repeat (first | exact Sub.refl _ | exact Sub.none _ | refine Sub.p0 ?_ | refine Sub.p1 ?_ | refine Sub.p2 ?_ | refine Sub.p3 ?_ | refine Sub.p4 ?_ | refine Sub.p5 ?_ | refine Sub.p6 ?_ | refine Sub.drop ?_)
    · refine sw_seq ?_
      refine sl_region ?_
      refine sl_bin rfl rfl rfl rfl rfl ?_
      refine sl_as rfl rfl rfl ?_
      refine sl_nil ?_
      refine sw_cond rfl (fun h2 => ?_) (fun h2 => ?_)
      · rw [encPart2 (eq5 h2)]
        have := hlt.1
        refine sw_seq ?_
        refine sl_region ?_
        refine sl_mv rfl rfl rfl ?_
        first
          | refine sl_fieldAddr_ptr rfl rfl rfl fo_74_2 ?_
          | refine sl_fieldAddr_rp rfl rfl rfl fo_74_2 ?_
          | refine sl_fieldAddr_ref rfl rfl rfl fo_74_2 ?_
        first
          | refine sl_load_rp1 rfl rfl rfl ag_9 rfl ?_
          | refine sl_load_blk1 rfl rfl rfl ag_9 (by first | exact List.Mem.head _ | exact List.Mem.tail _ (List.Mem.head _) | exact List.Mem.tail _ (List.Mem.tail _ (List.Mem.head _)) | exact List.Mem.tail _ (List.Mem.tail _ (List.Mem.tail _ (List.Mem.head _))) | exact List.Mem.tail _ (List.Mem.tail _ (List.Mem.tail _ (List.Mem.tail _ (List.Mem.head _)))) | exact List.Mem.tail _ (List.Mem.tail _ (List.Mem.tail _ (List.Mem.tail _ (List.Mem.tail _ (List.Mem.head _)))))) rfl ?_
        refine sl_callf rfl rfl cal_39 (xtext_ok v l p.t σ (by omega) (by omega)) ?_ ?_ ?_ (fun _ _ h => h.elim)
        · repeat (first | exact Weaks.nil | refine Weaks.cons (Weak.junk _) ?_ | refine Weaks.cons (Weak.refl _) ?_ | refine Weaks.cons (Weak.toV rfl) ?_ | refine Weaks.cons (Weak.ref _) ?_ | refine Weaks.cons (Weak.rp_agg _) ?_)
        · repeat (first | exact Sub.refl _ | exact Sub.none _ | refine Sub.p0 ?_ | refine Sub.p1 ?_ | refine Sub.p2 ?_ | refine Sub.p3 ?_ | refine Sub.p4 ?_ | refine Sub.p5 ?_ | refine Sub.p6 ?_ | refine Sub.drop ?_)
        rintro _ _ ⟨v2, rfl, rfl⟩
        refine sl_as rfl rfl rfl ?_
        refine sl_nil ?_
        refine sw_ret ⟨rfl, _, _, res_one rfl rfl, ?_, ⟨v2, rfl, rfl⟩⟩
        repeat (first | exact Sub.refl _ | exact Sub.none _ | refine Sub.p0 ?_ | refine Sub.p1 ?_ | refine Sub.p2 ?_ | refine Sub.p3 ?_ | refine Sub.p4 ?_ | refine Sub.p5 ?_ | refine Sub.p6 ?_ | refine Sub.drop ?_)
      · refine sw_seq ?_
        refine sl_region ?_
        refine sl_bin rfl rfl rfl rfl rfl ?_
        refine sl_as rfl rfl rfl ?_
        refine sl_nil ?_
        refine sw_cond rfl (fun h3 => ?_) (fun h3 => ?_)
        · rw [encPart3 (eq5 h3)]
          refine sw_seq ?_
          refine sl_region ?_
          refine sl_mv rfl rfl rfl ?_
          first
            | refine sl_fieldAddr_ptr rfl rfl rfl fo_74_1 ?_
            | refine sl_fieldAddr_rp rfl rfl rfl fo_74_1 ?_
            | refine sl_fieldAddr_ref rfl rfl rfl fo_74_1 ?_
          first
            | refine sl_load_rp1 rfl rfl rfl ag_37 rfl ?_
            | refine sl_load_blk1 rfl rfl rfl ag_37 (by first | exact List.Mem.head _ | exact List.Mem.tail _ (List.Mem.head _) | exact List.Mem.tail _ (List.Mem.tail _ (List.Mem.head _)) | exact List.Mem.tail _ (List.Mem.tail _ (List.Mem.tail _ (List.Mem.head _))) | exact List.Mem.tail _ (List.Mem.tail _ (List.Mem.tail _ (List.Mem.tail _ (List.Mem.head _)))) | exact List.Mem.tail _ (List.Mem.tail _ (List.Mem.tail _ (List.Mem.tail _ (List.Mem.tail _ (List.Mem.head _)))))) rfl ?_
          refine sl_rem rfl rfl rfl rfl (by decide) ?_
          refine sl_bin rfl rfl rfl rfl rfl ?_
          refine sl_set 33 (.val (boolV (p.n % 2 == 1))) (odd_bool p.n) ?_
          refine sl_callf rfl rfl cal_79 (xbool_ok v l (p.n % 2 == 1) σ (by omega)) ?_ ?_ ?_ (fun _ _ h => h.elim)
          · repeat (first | exact Weaks.nil | refine Weaks.cons (Weak.junk _) ?_ | refine Weaks.cons (Weak.refl _) ?_ | refine Weaks.cons (Weak.toV rfl) ?_ | refine Weaks.cons (Weak.ref _) ?_ | refine Weaks.cons (Weak.rp_agg _) ?_)
          · repeat (first | exact Sub.refl _ | exact Sub.none _ | refine Sub.p0 ?_ | refine Sub.p1 ?_ | refine Sub.p2 ?_ | refine Sub.p3 ?_ | refine Sub.p4 ?_ | refine Sub.p5 ?_ | refine Sub.p6 ?_ | refine Sub.drop ?_)
          rintro _ _ ⟨v2, rfl, rfl⟩
          refine sl_as rfl rfl rfl ?_
          refine sl_nil ?_
          refine sw_ret ⟨rfl, _, _, res_one rfl rfl, ?_, ⟨v2, rfl, rfl⟩⟩
          repeat (first | exact Sub.refl _ | exact Sub.none _ | refine Sub.p0 ?_ | refine Sub.p1 ?_ | refine Sub.p2 ?_ | refine Sub.p3 ?_ | refine Sub.p4 ?_ | refine Sub.p5 ?_ | refine Sub.p6 ?_ | refine Sub.drop ?_)
        · rw [encPart4 (ne5 h0) (ne5 h1) (ne5 h2) (ne5 h3)]
          refine sw_skip ?_
          refine sw_seq ?_
          refine sl_region ?_
          refine sl_mv rfl rfl rfl ?_
          first
            | refine sl_fieldAddr_ptr rfl rfl rfl fo_74_3 ?_
            | refine sl_fieldAddr_rp rfl rfl rfl fo_74_3 ?_
            | refine sl_fieldAddr_ref rfl rfl rfl fo_74_3 ?_
          first
            | refine sl_load_rpn rfl rfl rfl ag_72 sz_72 (Nat.le_of_ble_eq_true rfl) ?_
            | refine sl_load_blkn rfl rfl rfl ag_72 sz_72 (by first | exact List.Mem.head _ | exact List.Mem.tail _ (List.Mem.head _) | exact List.Mem.tail _ (List.Mem.tail _ (List.Mem.head _)) | exact List.Mem.tail _ (List.Mem.tail _ (List.Mem.tail _ (List.Mem.head _))) | exact List.Mem.tail _ (List.Mem.tail _ (List.Mem.tail _ (List.Mem.tail _ (List.Mem.head _)))) | exact List.Mem.tail _ (List.Mem.tail _ (List.Mem.tail _ (List.Mem.tail _ (List.Mem.tail _ (List.Mem.head _)))))) (Nat.le_of_ble_eq_true rfl) ?_
            | refine sl_load_ref rfl rfl rfl ag_72 sz_72 (Nat.le_of_ble_eq_true rfl) ?_
          refine sl_callf rfl rfl cal_80 (xsumm_ok v l p.s σ hok.2 hlt.2 (by omega)) ?_ ?_ ?_ (fun _ _ h => h.elim)
          · repeat (first | exact Weaks.nil | refine Weaks.cons (Weak.junk _) ?_ | refine Weaks.cons (Weak.refl _) ?_ | refine Weaks.cons (Weak.toV rfl) ?_ | refine Weaks.cons (Weak.ref _) ?_ | refine Weaks.cons (Weak.rp_agg _) ?_)
          · repeat (first | exact Sub.refl _ | exact Sub.none _ | refine Sub.p0 ?_ | refine Sub.p1 ?_ | refine Sub.p2 ?_ | refine Sub.p3 ?_ | refine Sub.p4 ?_ | refine Sub.p5 ?_ | refine Sub.p6 ?_ | refine Sub.drop ?_)
          rintro _ _ ⟨v2, rfl, rfl⟩
          refine sl_as rfl rfl rfl ?_
          refine sl_nil ?_
          refine sw_ret ⟨rfl, _, _, res_one rfl rfl, ?_, ⟨v2, rfl, rfl⟩⟩
          repeat (first | exact Sub.refl _ | exact Sub.none _ | refine Sub.p0 ?_ | refine Sub.p1 ?_ | refine Sub.p2 ?_ | refine Sub.p3 ?_ | refine Sub.p4 ?_ | refine Sub.p5 ?_ | refine Sub.p6 ?_ | refine Sub.drop ?_)

theorem l2_ok (ps : List Prt) (σ : List Chunk) (hn : ps.length ≤ 12) : FSpec Try.prog 38 [.val (.list (ps.map prtV))] σ (fun d σ' => d = .val (.list ((ps.map Prt.t).map strV)) ∧ σ' = σ) := by
  refine spec_of_sw Try.func38 rfl ?_
  refine sw_seq ?_
  refine sl_region ?_
  refine sl_as rfl rfl rfl ?_
  refine sl_nil ?_
  refine sw_seq ?_
  refine sl_region ?_
  refine sl_as rfl rfl rfl ?_
  refine sl_nil ?_
  refine sw_seq ?_
  refine sw_seq ?_
  refine sw_own (t := 3) (sz := 1) rfl (fun e0 => ?_)
  refine sl_region ?_
  refine sl_as rfl rfl rfl ?_
  refine sl_nil ?_
  refine sw_block ?_
  refine sw_loopw (fun nX sX δX σX => ∃ (k : Nat) (v : Value) (ts : List (List UInt8)), (ps.length - k) = nX ∧ sX = ⟨20, (.cons 0 (.val (.list (ps.map prtV))) (.cons 3 (.own v (ts.map strV)) (.cons 4 (.val (.int .i64 (k : Int))) .nil)))⟩ ∧ δX = [] ∧ σX = .spare v 1 :: σ ∧ k ≤ ps.length ∧ ts = (ps.take k).map Prt.t) ?_ ?_
  · refine ⟨_, _, _, ?_, ?_, 0, e0, [], rfl, rfl, rfl, rfl, Nat.zero_le _, rfl⟩
    · refine ⟨rfl, ?_⟩; repeat (first | exact WkL.nil | refine WkL.cons (Weak.refl _) ?_ | refine WkL.cons (Weak.toV rfl) ?_ | refine WkL.cons (Weak.ref _) ?_ | refine WkL.cons (Weak.rp_agg _) ?_)
    · repeat (first | exact Sub.refl _ | exact Sub.none _ | refine Sub.p0 ?_ | refine Sub.p1 ?_ | refine Sub.p2 ?_ | refine Sub.p3 ?_ | refine Sub.p4 ?_ | refine Sub.p5 ?_ | refine Sub.p6 ?_ | refine Sub.drop ?_)
  · rintro nX sX δX σX ⟨k, v, ts, rfl, rfl, rfl, rfl, hk0, hts⟩
    refine sw_seq ?_
    refine sw_seq ?_
    refine sl_region ?_
    refine sl_mv rfl rfl rfl ?_
    refine sl_mv rfl rfl rfl ?_
    first
      | refine sl_len rfl rfl rfl ⟨_, u_64⟩ ?_
      | refine sl_len_sl rfl rfl rfl ⟨_, u_64⟩ ?_
    refine sl_bin rfl rfl rfl rfl rfl ?_
    refine sl_nil ?_
    refine sw_cond rfl (fun hk => ?_) (fun hk => ?_)
    · have hk : k < ps.length := by simpa using hk
      have htl : ts.length ≤ 12 := by rw [hts, List.length_map, List.length_take]; omega
      refine sw_skip ?_
      refine sw_seq ?_
      refine sw_block ?_
      refine sl_region ?_
      refine sl_mv rfl rfl rfl ?_
      refine sl_mv rfl rfl rfl ?_
      refine sl_mv rfl rfl rfl ?_
      refine sl_indexAddr' rfl rfl rfl rfl u_64 sz_74 (by omega) (idx_map hk) rfl ?_
      first
        | refine sl_fieldAddr_ptr rfl rfl rfl fo_74_2 ?_
        | refine sl_fieldAddr_rp rfl rfl rfl fo_74_2 ?_
        | refine sl_fieldAddr_ref rfl rfl rfl fo_74_2 ?_
      first
        | refine sl_load_rp1 rfl rfl rfl ag_9 rfl ?_
        | refine sl_load_blk1 rfl rfl rfl ag_9 (by first | exact List.Mem.head _ | exact List.Mem.tail _ (List.Mem.head _) | exact List.Mem.tail _ (List.Mem.tail _ (List.Mem.head _)) | exact List.Mem.tail _ (List.Mem.tail _ (List.Mem.tail _ (List.Mem.head _))) | exact List.Mem.tail _ (List.Mem.tail _ (List.Mem.tail _ (List.Mem.tail _ (List.Mem.head _)))) | exact List.Mem.tail _ (List.Mem.tail _ (List.Mem.tail _ (List.Mem.tail _ (List.Mem.tail _ (List.Mem.head _)))))) rfl ?_
      refine sl_bs1 rfl rfl (.cons rfl .nil) u_53 sz_9 zs_9 (by decide) rfl rfl rfl rfl ?_
      first
        | refine sl_app rfl rfl rfl rfl u_53 ⟨_, u_53, rfl⟩ el_9 (by repeat (first | exact sized_nil | exact sized_map (fun _ => ⟨rfl, rfl⟩) | refine sized_cons rfl rfl ?_ | refine sized_append ?_ ?_ | assumption)) (by repeat (first | exact sized_nil | exact sized_map (fun _ => ⟨rfl, rfl⟩) | refine sized_cons rfl rfl ?_ | refine sized_append ?_ ?_ | assumption)) (by simp only [List.length_map, List.length_cons, List.length_nil]; omega) ((by rw [hts, take_snoc hk, List.map_append, List.map_append]; rfl : _ = (((ps.take (k + 1)).map Prt.t)).map strV)) (fun v18 => ?_)
        | (refine sl_f1 ?_; refine sl_app rfl rfl rfl rfl u_53 ⟨_, u_53, rfl⟩ el_9 (by repeat (first | exact sized_nil | exact sized_map (fun _ => ⟨rfl, rfl⟩) | refine sized_cons rfl rfl ?_ | refine sized_append ?_ ?_ | assumption)) (by repeat (first | exact sized_nil | exact sized_map (fun _ => ⟨rfl, rfl⟩) | refine sized_cons rfl rfl ?_ | refine sized_append ?_ ?_ | assumption)) (by simp only [List.length_map, List.length_cons, List.length_nil]; omega) ((by rw [hts, take_snoc hk, List.map_append, List.map_append]; rfl : _ = (((ps.take (k + 1)).map Prt.t)).map strV)) (fun v18 => ?_))
        | (refine sl_f2 ?_; refine sl_app rfl rfl rfl rfl u_53 ⟨_, u_53, rfl⟩ el_9 (by repeat (first | exact sized_nil | exact sized_map (fun _ => ⟨rfl, rfl⟩) | refine sized_cons rfl rfl ?_ | refine sized_append ?_ ?_ | assumption)) (by repeat (first | exact sized_nil | exact sized_map (fun _ => ⟨rfl, rfl⟩) | refine sized_cons rfl rfl ?_ | refine sized_append ?_ ?_ | assumption)) (by simp only [List.length_map, List.length_cons, List.length_nil]; omega) ((by rw [hts, take_snoc hk, List.map_append, List.map_append]; rfl : _ = (((ps.take (k + 1)).map Prt.t)).map strV)) (fun v18 => ?_))
        | (refine sl_f3 ?_; refine sl_app rfl rfl rfl rfl u_53 ⟨_, u_53, rfl⟩ el_9 (by repeat (first | exact sized_nil | exact sized_map (fun _ => ⟨rfl, rfl⟩) | refine sized_cons rfl rfl ?_ | refine sized_append ?_ ?_ | assumption)) (by repeat (first | exact sized_nil | exact sized_map (fun _ => ⟨rfl, rfl⟩) | refine sized_cons rfl rfl ?_ | refine sized_append ?_ ?_ | assumption)) (by simp only [List.length_map, List.length_cons, List.length_nil]; omega) ((by rw [hts, take_snoc hk, List.map_append, List.map_append]; rfl : _ = (((ps.take (k + 1)).map Prt.t)).map strV)) (fun v18 => ?_))
        | (refine sl_f4 ?_; refine sl_app rfl rfl rfl rfl u_53 ⟨_, u_53, rfl⟩ el_9 (by repeat (first | exact sized_nil | exact sized_map (fun _ => ⟨rfl, rfl⟩) | refine sized_cons rfl rfl ?_ | refine sized_append ?_ ?_ | assumption)) (by repeat (first | exact sized_nil | exact sized_map (fun _ => ⟨rfl, rfl⟩) | refine sized_cons rfl rfl ?_ | refine sized_append ?_ ?_ | assumption)) (by simp only [List.length_map, List.length_cons, List.length_nil]; omega) ((by rw [hts, take_snoc hk, List.map_append, List.map_append]; rfl : _ = (((ps.take (k + 1)).map Prt.t)).map strV)) (fun v18 => ?_))
        | (refine sl_f5 ?_; refine sl_app rfl rfl rfl rfl u_53 ⟨_, u_53, rfl⟩ el_9 (by repeat (first | exact sized_nil | exact sized_map (fun _ => ⟨rfl, rfl⟩) | refine sized_cons rfl rfl ?_ | refine sized_append ?_ ?_ | assumption)) (by repeat (first | exact sized_nil | exact sized_map (fun _ => ⟨rfl, rfl⟩) | refine sized_cons rfl rfl ?_ | refine sized_append ?_ ?_ | assumption)) (by simp only [List.length_map, List.length_cons, List.length_nil]; omega) ((by rw [hts, take_snoc hk, List.map_append, List.map_append]; rfl : _ = (((ps.take (k + 1)).map Prt.t)).map strV)) (fun v18 => ?_))
        | (refine sl_f6 ?_; refine sl_app rfl rfl rfl rfl u_53 ⟨_, u_53, rfl⟩ el_9 (by repeat (first | exact sized_nil | exact sized_map (fun _ => ⟨rfl, rfl⟩) | refine sized_cons rfl rfl ?_ | refine sized_append ?_ ?_ | assumption)) (by repeat (first | exact sized_nil | exact sized_map (fun _ => ⟨rfl, rfl⟩) | refine sized_cons rfl rfl ?_ | refine sized_append ?_ ?_ | assumption)) (by simp only [List.length_map, List.length_cons, List.length_nil]; omega) ((by rw [hts, take_snoc hk, List.map_append, List.map_append]; rfl : _ = (((ps.take (k + 1)).map Prt.t)).map strV)) (fun v18 => ?_))
      refine sl_as rfl rfl rfl ?_
      refine sl_nil ?_
      refine sl_region ?_
      refine sl_mv rfl rfl rfl ?_
      first
        | refine sl_inc rfl rfl rfl rfl (by omega) ?_
        | refine sl_add rfl rfl rfl rfl (by constructor <;> omega) ?_
        | refine sl_bin rfl rfl rfl rfl rfl ?_
      refine sl_as rfl rfl rfl ?_
      refine sl_nil ?_
      refine ⟨_, by omega, _, _, ?_, ?_, k + 1, v18, (ps.take (k + 1)).map Prt.t, rfl, rfl, rfl, rfl, by omega, rfl⟩
      · refine ⟨rfl, ?_⟩; repeat (first | exact WkL.nil | refine WkL.cons (Weak.refl _) ?_ | refine WkL.cons (Weak.toV rfl) ?_ | refine WkL.cons (Weak.ref _) ?_ | refine WkL.cons (Weak.rp_agg _) ?_)
      · repeat (first | exact Sub.refl _ | exact Sub.none _ | refine Sub.p0 ?_ | refine Sub.p1 ?_ | refine Sub.p2 ?_ | refine Sub.p3 ?_ | refine Sub.p4 ?_ | refine Sub.p5 ?_ | refine Sub.p6 ?_ | refine Sub.drop ?_)
    · have hk : k = ps.length := by have h9 : ¬ k < ps.length := (by simpa using hk); omega
      subst hk
      rw [List.take_length] at hts
      subst hts
      refine sw_exit ?_
      refine sw_seq ?_
      refine sl_region ?_
      refine sl_mv rfl rfl rfl ?_
      refine sl_as rfl rfl rfl ?_
      refine sl_nil ?_
      refine sw_ret ⟨rfl, _, _, ResD.weak (res_one rfl rfl) ((Weak.toV rfl) ), ?_, ⟨rfl, rfl⟩⟩
      repeat (first | exact Sub.refl _ | exact Sub.none _ | refine Sub.p0 ?_ | refine Sub.p1 ?_ | refine Sub.p2 ?_ | refine Sub.p3 ?_ | refine Sub.p4 ?_ | refine Sub.p5 ?_ | refine Sub.p6 ?_ | refine Sub.drop ?_)

end Go.Proofs.Ytioechdfghglhaa
