/- Walks: printed by a program of this session out of its script CodeV. -/
import Derived.Test.YtioechdfghglhaaSlT
import Derived.Test.YtioechdfghglhaaP13
import Derived.Test.YtioechdfghglhaaCodeU
namespace Go.Proofs.Ytioechdfghglhaa
set_option linter.unusedVariables false
set_option linter.unusedSimpArgs false
set_option maxRecDepth 4000
set_option maxHeartbeats 4000000
open Go Go.RowKit SL


/-- CodeBack. -/
theorem codeBack_ok (ps : List Prt) (hok : ∀ p ∈ ps, PrtOk p) :
    FSpec Try.prog 10 [.val (.list (ps.map prtV))] [] (fun d σ' => d = .val (.bool true) ∧ σ' = []) := by
  refine spec_of_sw Try.func10 rfl ?_
  refine sw_seq ?_
  refine sl_region ?_
  refine sl_as rfl rfl rfl ?_
  refine sl_nil ?_
  refine sw_seq ?_
  refine sw_seq ?_
  refine sl_region ?_
  refine sl_callf rfl rfl cal_15 (known2_ok []) ?_ ?_ ?_ (fun _ _ h => h.elim)
  · repeat (first | exact Weaks.nil | refine Weaks.cons (Weak.junk _) ?_ | refine Weaks.cons (Weak.refl _) ?_ | refine Weaks.cons (Weak.toV rfl) ?_ | refine Weaks.cons (Weak.ref _) ?_ | refine Weaks.cons (Weak.rp_agg _) ?_)
  · repeat (first | exact Sub.refl _ | exact Sub.none _ | refine Sub.p0 ?_ | refine Sub.p1 ?_ | refine Sub.p2 ?_ | refine Sub.p3 ?_ | refine Sub.p4 ?_ | refine Sub.p5 ?_ | refine Sub.p6 ?_ | refine Sub.drop ?_)
  rintro _ _ ⟨rfl, rfl⟩
  refine sl_not rfl rfl rfl ?_
  refine sl_nil ?_
  refine sw_false rfl (rfl) ?_
  refine sw_skip ?_
  refine sw_seq ?_
  refine sw_seq ?_
  refine sl_region ?_
  refine sl_mv rfl rfl rfl ?_
  refine sl_callf rfl rfl cal_35 (light_ok ps []) ?_ ?_ ?_ (fun _ _ h => h.elim)
  · repeat (first | exact Weaks.nil | refine Weaks.cons (Weak.junk _) ?_ | refine Weaks.cons (Weak.refl _) ?_ | refine Weaks.cons (Weak.toV rfl) ?_ | refine Weaks.cons (Weak.ref _) ?_ | refine Weaks.cons (Weak.rp_agg _) ?_)
  · repeat (first | exact Sub.refl _ | exact Sub.none _ | refine Sub.p0 ?_ | refine Sub.p1 ?_ | refine Sub.p2 ?_ | refine Sub.p3 ?_ | refine Sub.p4 ?_ | refine Sub.p5 ?_ | refine Sub.p6 ?_ | refine Sub.drop ?_)
  rintro _ _ ⟨bb, rfl, hb, rfl⟩
  refine sl_not rfl rfl rfl ?_
  refine sl_nil ?_
  refine sw_cond rfl (fun hnl => ?_) (fun hnl => ?_)
  · refine sw_seq ?_
    refine sl_region ?_
    refine sl_as rfl rfl rfl ?_
    refine sl_nil ?_
    refine sw_ret ⟨rfl, _, _, res_one rfl rfl, ?_, ⟨rfl, rfl⟩⟩
    repeat (first | exact Sub.refl _ | exact Sub.none _ | refine Sub.p0 ?_ | refine Sub.p1 ?_ | refine Sub.p2 ?_ | refine Sub.p3 ?_ | refine Sub.p4 ?_ | refine Sub.p5 ?_ | refine Sub.p6 ?_ | refine Sub.drop ?_)
  · obtain ⟨hn, hlt⟩ := hb (by simpa using hnl)
    refine sw_skip ?_
    refine sw_seq ?_
    refine sl_region ?_
    refine sl_as rfl rfl rfl ?_
    refine sl_nil ?_
    refine sw_seq ?_
    refine sw_seq ?_
    refine sw_own (t := 3) (sz := 1) rfl (fun u0 => ?_)
    refine sl_region ?_
    refine sl_as rfl rfl rfl ?_
    refine sl_nil ?_
    refine sw_block ?_
    refine sw_loopw (fun nX sX δX σX => ∃ (k : Nat) (u : Value) (m : List UInt8), (ps.length - k) = nX ∧ sX = ⟨136, (.cons 0 (.val (.list (ps.map prtV))) (.cons 3 (.own u (m.map byteV)) (.cons 4 (.val (.int .i64 (k : Int))) .nil)))⟩ ∧ δX = [] ∧ σX = .spare u 1 :: [] ∧ k ≤ ps.length ∧ m = ([] : List UInt8) ++ (ps.take k).flatMap encPart ∧ ∀ p ∈ ps.take k, ∀ a ∈ p.s.alarms, AlmI32 a) ?_ ?_
    · refine ⟨_, _, _, ?_, ?_, 0, u0, [], rfl, rfl, rfl, rfl, Nat.zero_le _, by simp, by simp⟩
      · refine ⟨rfl, ?_⟩; repeat (first | exact WkL.nil | refine WkL.cons (Weak.refl _) ?_ | refine WkL.cons (Weak.toV rfl) ?_ | refine WkL.cons (Weak.ref _) ?_ | refine WkL.cons (Weak.rp_agg _) ?_)
      · repeat (first | exact Sub.refl _ | exact Sub.none _ | refine Sub.p0 ?_ | refine Sub.p1 ?_ | refine Sub.p2 ?_ | refine Sub.p3 ?_ | refine Sub.p4 ?_ | refine Sub.p5 ?_ | refine Sub.p6 ?_ | refine Sub.drop ?_)
    · rintro nX sX δX σX ⟨k, u, m, rfl, rfl, rfl, rfl, hk0, hm0, h32⟩
      refine sw_seq ?_
      refine sw_seq ?_
      refine sl_region ?_
      refine sl_mv rfl rfl rfl ?_
      refine sl_mv rfl rfl rfl ?_
      first
        | refine sl_len rfl rfl rfl ⟨_, u_64⟩ ?_
        | refine sl_len_sl rfl rfl rfl ⟨_, u_64⟩ ?_
      refine sl_bin rfl rfl rfl rfl rfl ?_
      refine sl_nil ?_
      refine sw_cond rfl (fun hk => ?_) (fun hk => ?_)
      · have hk : k < ps.length := by simpa using hk
        have hok1 := hok ps[k] (List.getElem_mem hk)
        have hlt1 := hlt ps[k] (List.getElem_mem hk)
        have hml : m.length ≤ 20000 := by
          have := flat_len (f := encPart) (c := 1100) (ns := ps) (fun p hp => encPart_len (hok p hp) (hlt p hp)) k
          rw [hm0]; simp only [List.length_append, List.length_nil]; omega
        have hal := hlt1.2.1
        have e8 : m ++ encPart ps[k] = ([] : List UInt8) ++ (ps.take (k + 1)).flatMap encPart := by rw [flat_snoc hk, hm0]
        refine sw_skip ?_
        refine sw_seq ?_
        refine sw_block ?_
        refine sw_seq ?_
        refine sw_seq ?_
        refine sl_region ?_
        refine sl_as rfl rfl rfl ?_
        refine sl_nil ?_
        refine sw_block ?_
        refine sw_loopw (fun nX sX δX σX => ∃ (j : Nat), (ps[k].s.alarms.length - j) = nX ∧ sX = ⟨136, (.cons 0 (.val (.list (ps.map prtV))) (.cons 3 (.own u (m.map byteV)) (.cons 4 (.val (.int .i64 (k : Int))) (.cons 5 (.val (.int .i64 (j : Int))) .nil))))⟩ ∧ δX = [] ∧ σX = .spare u 1 :: [] ∧ j ≤ ps[k].s.alarms.length ∧ ∀ a ∈ ps[k].s.alarms.take j, AlmI32 a) ?_ ?_
        · refine ⟨_, _, _, ?_, ?_, 0, rfl, rfl, rfl, rfl, Nat.zero_le _, by simp⟩
          · refine ⟨rfl, ?_⟩; repeat (first | exact WkL.nil | refine WkL.cons (Weak.refl _) ?_ | refine WkL.cons (Weak.toV rfl) ?_ | refine WkL.cons (Weak.ref _) ?_ | refine WkL.cons (Weak.rp_agg _) ?_)
          · repeat (first | exact Sub.refl _ | exact Sub.none _ | refine Sub.p0 ?_ | refine Sub.p1 ?_ | refine Sub.p2 ?_ | refine Sub.p3 ?_ | refine Sub.p4 ?_ | refine Sub.p5 ?_ | refine Sub.p6 ?_ | refine Sub.drop ?_)
        · rintro nX sX δX σX ⟨j, rfl, rfl, rfl, rfl, hj0, h32k⟩
          refine sw_seq ?_
          refine sw_seq ?_
          refine sl_region ?_
          refine sl_mv rfl rfl rfl ?_
          refine sl_mv rfl rfl rfl ?_
          refine sl_mv rfl rfl rfl ?_
          refine sl_indexAddr' rfl rfl rfl rfl u_64 sz_74 (by omega) (idx_map hk) rfl ?_
          first
            | refine sl_fieldAddr_ptr rfl rfl rfl fo_74_3 ?_
            | refine sl_fieldAddr_rp rfl rfl rfl fo_74_3 ?_
            | refine sl_fieldAddr_ref rfl rfl rfl fo_74_3 ?_
          first
            | refine sl_fieldAddr_ptr rfl rfl rfl fo_72_0 ?_
            | refine sl_fieldAddr_rp rfl rfl rfl fo_72_0 ?_
            | refine sl_fieldAddr_ref rfl rfl rfl fo_72_0 ?_
          first
            | refine sl_load_rp1 rfl rfl rfl ag_67 rfl ?_
            | refine sl_load_blk1 rfl rfl rfl ag_67 (by first | exact List.Mem.head _ | exact List.Mem.tail _ (List.Mem.head _) | exact List.Mem.tail _ (List.Mem.tail _ (List.Mem.head _)) | exact List.Mem.tail _ (List.Mem.tail _ (List.Mem.tail _ (List.Mem.head _))) | exact List.Mem.tail _ (List.Mem.tail _ (List.Mem.tail _ (List.Mem.tail _ (List.Mem.head _)))) | exact List.Mem.tail _ (List.Mem.tail _ (List.Mem.tail _ (List.Mem.tail _ (List.Mem.tail _ (List.Mem.head _)))))) rfl ?_
          first
            | refine sl_len rfl rfl rfl ⟨_, u_67⟩ ?_
            | refine sl_len_sl rfl rfl rfl ⟨_, u_67⟩ ?_
          refine sl_bin rfl rfl rfl rfl rfl ?_
          refine sl_nil ?_
          refine sw_cond rfl (fun hj => ?_) (fun hj => ?_)
          · have hj : j < ps[k].s.alarms.length := by have := of_decide_eq_true hj; rw [List.length_map] at this; omega
            refine sw_skip ?_
            refine sw_seq ?_
            refine sw_block ?_
            refine sw_seq ?_
            refine sl_region ?_
            refine sl_mv rfl rfl rfl ?_
            refine sl_mv rfl rfl rfl ?_
            refine sl_indexAddr' rfl rfl rfl rfl u_64 sz_74 (by omega) (idx_map hk) rfl ?_
            first
              | refine sl_fieldAddr_ptr rfl rfl rfl fo_74_3 ?_
              | refine sl_fieldAddr_rp rfl rfl rfl fo_74_3 ?_
              | refine sl_fieldAddr_ref rfl rfl rfl fo_74_3 ?_
            first
              | refine sl_fieldAddr_ptr rfl rfl rfl fo_72_0 ?_
              | refine sl_fieldAddr_rp rfl rfl rfl fo_72_0 ?_
              | refine sl_fieldAddr_ref rfl rfl rfl fo_72_0 ?_
            first
              | refine sl_load_rp1 rfl rfl rfl ag_67 rfl ?_
              | refine sl_load_blk1 rfl rfl rfl ag_67 (by first | exact List.Mem.head _ | exact List.Mem.tail _ (List.Mem.head _) | exact List.Mem.tail _ (List.Mem.tail _ (List.Mem.head _)) | exact List.Mem.tail _ (List.Mem.tail _ (List.Mem.tail _ (List.Mem.head _))) | exact List.Mem.tail _ (List.Mem.tail _ (List.Mem.tail _ (List.Mem.tail _ (List.Mem.head _)))) | exact List.Mem.tail _ (List.Mem.tail _ (List.Mem.tail _ (List.Mem.tail _ (List.Mem.tail _ (List.Mem.head _)))))) rfl ?_
            refine sl_mv rfl rfl rfl ?_
            refine sl_indexAddr' rfl rfl rfl rfl u_67 sz_86 (by omega) (idx_map hj) rfl ?_
            first
              | refine sl_load_rpn rfl rfl rfl ag_86 sz_86 (Nat.le_of_ble_eq_true rfl) ?_
              | refine sl_load_blkn rfl rfl rfl ag_86 sz_86 (by first | exact List.Mem.head _ | exact List.Mem.tail _ (List.Mem.head _) | exact List.Mem.tail _ (List.Mem.tail _ (List.Mem.head _)) | exact List.Mem.tail _ (List.Mem.tail _ (List.Mem.tail _ (List.Mem.head _))) | exact List.Mem.tail _ (List.Mem.tail _ (List.Mem.tail _ (List.Mem.tail _ (List.Mem.head _)))) | exact List.Mem.tail _ (List.Mem.tail _ (List.Mem.tail _ (List.Mem.tail _ (List.Mem.tail _ (List.Mem.head _)))))) (Nat.le_of_ble_eq_true rfl) ?_
              | refine sl_load_ref rfl rfl rfl ag_86 sz_86 (Nat.le_of_ble_eq_true rfl) ?_
            refine sl_alloc rfl rfl zd_86 (fun b6 => ?_)
            first
              | refine sl_st rfl rfl rfl rfl sz_86 rfl rfl rfl (Nat.le_of_ble_eq_true rfl) ?_
              | (refine sl_f1 ?_; refine sl_st rfl rfl rfl rfl sz_86 rfl rfl rfl (Nat.le_of_ble_eq_true rfl) ?_)
              | (refine sl_f2 ?_; refine sl_st rfl rfl rfl rfl sz_86 rfl rfl rfl (Nat.le_of_ble_eq_true rfl) ?_)
              | (refine sl_f3 ?_; refine sl_st rfl rfl rfl rfl sz_86 rfl rfl rfl (Nat.le_of_ble_eq_true rfl) ?_)
              | (refine sl_f4 ?_; refine sl_st rfl rfl rfl rfl sz_86 rfl rfl rfl (Nat.le_of_ble_eq_true rfl) ?_)
              | (refine sl_f5 ?_; refine sl_st rfl rfl rfl rfl sz_86 rfl rfl rfl (Nat.le_of_ble_eq_true rfl) ?_)
              | (refine sl_f6 ?_; refine sl_st rfl rfl rfl rfl sz_86 rfl rfl rfl (Nat.le_of_ble_eq_true rfl) ?_)
            refine sl_nil ?_
            refine sw_seq ?_
            refine sl_region ?_
            first
              | refine sl_fieldAddr_ptr rfl rfl rfl fo_86_0 ?_
              | refine sl_fieldAddr_rp rfl rfl rfl fo_86_0 ?_
              | refine sl_fieldAddr_ref rfl rfl rfl fo_86_0 ?_
            first
              | refine sl_load_rp1 rfl rfl rfl ag_3 rfl ?_
              | refine sl_load_blk1 rfl rfl rfl ag_3 (by first | exact List.Mem.head _ | exact List.Mem.tail _ (List.Mem.head _) | exact List.Mem.tail _ (List.Mem.tail _ (List.Mem.head _)) | exact List.Mem.tail _ (List.Mem.tail _ (List.Mem.tail _ (List.Mem.head _))) | exact List.Mem.tail _ (List.Mem.tail _ (List.Mem.tail _ (List.Mem.tail _ (List.Mem.head _)))) | exact List.Mem.tail _ (List.Mem.tail _ (List.Mem.tail _ (List.Mem.tail _ (List.Mem.tail _ (List.Mem.head _)))))) rfl ?_
            refine sl_bin rfl rfl rfl rfl rfl ?_
            refine sl_mv rfl rfl rfl ?_
            refine sl_case_at 44 rfl (fun g1 => ?_) (fun g1 => ?_)
            · refine sl_guard_n rfl rfl rfl g1 ?_
              refine sl_guard_n rfl rfl rfl g1 ?_
              refine sl_guard_n rfl rfl rfl g1 ?_
              refine sl_pk_t rfl rfl rfl g1 rfl ?_
              refine sl_mv rfl rfl rfl ?_
              refine sl_guard_n rfl rfl rfl (rfl) ?_
              refine sl_guard_n rfl rfl rfl (rfl) ?_
              refine sl_guard_n rfl rfl rfl (rfl) ?_
              refine sl_pk_t rfl rfl rfl (rfl) rfl ?_
              refine sl_mv rfl rfl rfl ?_
              refine sl_guard_n rfl rfl rfl (rfl) ?_
              refine sl_guard_n rfl rfl rfl (rfl) ?_
              refine sl_guard_n rfl rfl rfl (rfl) ?_
              refine sl_pk_t rfl rfl rfl (rfl) rfl ?_
              refine sl_nil ?_
              refine sw_true rfl (rfl) ?_
              refine sw_seq ?_
              refine sl_region ?_
              refine sl_as rfl rfl rfl ?_
              refine sl_nil ?_
              refine sw_ret ⟨rfl, _, _, res_one rfl rfl, ?_, ⟨rfl, rfl⟩⟩
              repeat (first | exact Sub.refl _ | exact Sub.none _ | refine Sub.p0 ?_ | refine Sub.p1 ?_ | refine Sub.p2 ?_ | refine Sub.p3 ?_ | refine Sub.p4 ?_ | refine Sub.p5 ?_ | refine Sub.p6 ?_ | refine Sub.drop ?_)
            · refine sl_guard_y rfl rfl rfl g1 ?_
              first
                | refine sl_fieldAddr_ptr rfl rfl rfl fo_86_0 ?_
                | refine sl_fieldAddr_rp rfl rfl rfl fo_86_0 ?_
                | refine sl_fieldAddr_ref rfl rfl rfl fo_86_0 ?_
              refine sl_guard_y rfl rfl rfl g1 ?_
              first
                | refine sl_load_rp1 rfl rfl rfl ag_3 rfl ?_
                | refine sl_load_blk1 rfl rfl rfl ag_3 (by first | exact List.Mem.head _ | exact List.Mem.tail _ (List.Mem.head _) | exact List.Mem.tail _ (List.Mem.tail _ (List.Mem.head _)) | exact List.Mem.tail _ (List.Mem.tail _ (List.Mem.tail _ (List.Mem.head _))) | exact List.Mem.tail _ (List.Mem.tail _ (List.Mem.tail _ (List.Mem.tail _ (List.Mem.head _)))) | exact List.Mem.tail _ (List.Mem.tail _ (List.Mem.tail _ (List.Mem.tail _ (List.Mem.tail _ (List.Mem.head _)))))) rfl ?_
              refine sl_guard_y rfl rfl rfl g1 ?_
              refine sl_bin rfl rfl rfl rfl rfl ?_
              refine sl_pk_f rfl rfl rfl g1 rfl ?_
              refine sl_mv rfl rfl rfl ?_
              refine sl_case_at 49 rfl (fun g2 => ?_) (fun g2 => ?_)
              · refine sl_guard_n rfl rfl rfl g2 ?_
                refine sl_guard_n rfl rfl rfl g2 ?_
                refine sl_guard_n rfl rfl rfl g2 ?_
                refine sl_pk_t rfl rfl rfl g2 rfl ?_
                refine sl_mv rfl rfl rfl ?_
                refine sl_guard_n rfl rfl rfl (rfl) ?_
                refine sl_guard_n rfl rfl rfl (rfl) ?_
                refine sl_guard_n rfl rfl rfl (rfl) ?_
                refine sl_pk_t rfl rfl rfl (rfl) rfl ?_
                refine sl_nil ?_
                refine sw_true rfl (rfl) ?_
                refine sw_seq ?_
                refine sl_region ?_
                refine sl_as rfl rfl rfl ?_
                refine sl_nil ?_
                refine sw_ret ⟨rfl, _, _, res_one rfl rfl, ?_, ⟨rfl, rfl⟩⟩
                repeat (first | exact Sub.refl _ | exact Sub.none _ | refine Sub.p0 ?_ | refine Sub.p1 ?_ | refine Sub.p2 ?_ | refine Sub.p3 ?_ | refine Sub.p4 ?_ | refine Sub.p5 ?_ | refine Sub.p6 ?_ | refine Sub.drop ?_)
              · refine sl_guard_y rfl rfl rfl g2 ?_
                first
                  | refine sl_fieldAddr_ptr rfl rfl rfl fo_86_1 ?_
                  | refine sl_fieldAddr_rp rfl rfl rfl fo_86_1 ?_
                  | refine sl_fieldAddr_ref rfl rfl rfl fo_86_1 ?_
                refine sl_guard_y rfl rfl rfl g2 ?_
                first
                  | refine sl_load_rp1 rfl rfl rfl ag_3 rfl ?_
                  | refine sl_load_blk1 rfl rfl rfl ag_3 (by first | exact List.Mem.head _ | exact List.Mem.tail _ (List.Mem.head _) | exact List.Mem.tail _ (List.Mem.tail _ (List.Mem.head _)) | exact List.Mem.tail _ (List.Mem.tail _ (List.Mem.tail _ (List.Mem.head _))) | exact List.Mem.tail _ (List.Mem.tail _ (List.Mem.tail _ (List.Mem.tail _ (List.Mem.head _)))) | exact List.Mem.tail _ (List.Mem.tail _ (List.Mem.tail _ (List.Mem.tail _ (List.Mem.tail _ (List.Mem.head _)))))) rfl ?_
                refine sl_guard_y rfl rfl rfl g2 ?_
                refine sl_bin rfl rfl rfl rfl rfl ?_
                refine sl_pk_f rfl rfl rfl g2 rfl ?_
                refine sl_mv rfl rfl rfl ?_
                refine sl_case_at 54 rfl (fun g3 => ?_) (fun g3 => ?_)
                · refine sl_guard_n rfl rfl rfl g3 ?_
                  refine sl_guard_n rfl rfl rfl g3 ?_
                  refine sl_guard_n rfl rfl rfl g3 ?_
                  refine sl_pk_t rfl rfl rfl g3 rfl ?_
                  refine sl_nil ?_
                  refine sw_true rfl (rfl) ?_
                  refine sw_seq ?_
                  refine sl_region ?_
                  refine sl_as rfl rfl rfl ?_
                  refine sl_nil ?_
                  refine sw_ret ⟨rfl, _, _, res_one rfl rfl, ?_, ⟨rfl, rfl⟩⟩
                  repeat (first | exact Sub.refl _ | exact Sub.none _ | refine Sub.p0 ?_ | refine Sub.p1 ?_ | refine Sub.p2 ?_ | refine Sub.p3 ?_ | refine Sub.p4 ?_ | refine Sub.p5 ?_ | refine Sub.p6 ?_ | refine Sub.drop ?_)
                · refine sl_guard_y rfl rfl rfl g3 ?_
                  first
                    | refine sl_fieldAddr_ptr rfl rfl rfl fo_86_1 ?_
                    | refine sl_fieldAddr_rp rfl rfl rfl fo_86_1 ?_
                    | refine sl_fieldAddr_ref rfl rfl rfl fo_86_1 ?_
                  refine sl_guard_y rfl rfl rfl g3 ?_
                  first
                    | refine sl_load_rp1 rfl rfl rfl ag_3 rfl ?_
                    | refine sl_load_blk1 rfl rfl rfl ag_3 (by first | exact List.Mem.head _ | exact List.Mem.tail _ (List.Mem.head _) | exact List.Mem.tail _ (List.Mem.tail _ (List.Mem.head _)) | exact List.Mem.tail _ (List.Mem.tail _ (List.Mem.tail _ (List.Mem.head _))) | exact List.Mem.tail _ (List.Mem.tail _ (List.Mem.tail _ (List.Mem.tail _ (List.Mem.head _)))) | exact List.Mem.tail _ (List.Mem.tail _ (List.Mem.tail _ (List.Mem.tail _ (List.Mem.tail _ (List.Mem.head _)))))) rfl ?_
                  refine sl_guard_y rfl rfl rfl g3 ?_
                  refine sl_bin rfl rfl rfl rfl rfl ?_
                  refine sl_pk_f rfl rfl rfl g3 rfl ?_
                  refine sl_nil ?_
                  refine sw_cond rfl (fun g4 => ?_) (fun g4 => ?_)
                  · refine sw_seq ?_
                    refine sl_region ?_
                    refine sl_as rfl rfl rfl ?_
                    refine sl_nil ?_
                    refine sw_ret ⟨rfl, _, _, res_one rfl rfl, ?_, ⟨rfl, rfl⟩⟩
                    repeat (first | exact Sub.refl _ | exact Sub.none _ | refine Sub.p0 ?_ | refine Sub.p1 ?_ | refine Sub.p2 ?_ | refine Sub.p3 ?_ | refine Sub.p4 ?_ | refine Sub.p5 ?_ | refine Sub.p6 ?_ | refine Sub.drop ?_)
                  · have h32j : AlmI32 ps[k].s.alarms[j] := ⟨⟨by have := of_decide_eq_false g1; omega, by have := of_decide_eq_false g2; omega⟩, ⟨by have := of_decide_eq_false g3; omega, by have := of_decide_eq_false g4; omega⟩⟩
                    refine sw_skip ?_
                    refine sl_region ?_
                    refine sl_mv rfl rfl rfl ?_
                    first
                      | refine sl_inc rfl rfl rfl rfl (by omega) ?_
                      | refine sl_add rfl rfl rfl rfl (by constructor <;> omega) ?_
                      | refine sl_bin rfl rfl rfl rfl rfl ?_
                    refine sl_as rfl rfl rfl ?_
                    refine sl_nil ?_
                    refine ⟨_, by omega, _, _, ?_, ?_, j + 1, rfl, rfl, rfl, rfl, by omega, all_take_snoc h32k hj h32j⟩
                    · refine ⟨rfl, ?_⟩; repeat (first | exact WkL.nil | refine WkL.cons (Weak.refl _) ?_ | refine WkL.cons (Weak.toV rfl) ?_ | refine WkL.cons (Weak.ref _) ?_ | refine WkL.cons (Weak.rp_agg _) ?_)
                    · repeat (first | exact Sub.refl _ | exact Sub.none _ | refine Sub.p0 ?_ | refine Sub.p1 ?_ | refine Sub.p2 ?_ | refine Sub.p3 ?_ | refine Sub.p4 ?_ | refine Sub.p5 ?_ | refine Sub.p6 ?_ | refine Sub.drop ?_)
          · have hj : j = ps[k].s.alarms.length := by have := of_decide_eq_false hj; rw [List.length_map] at this; omega
            rw [hj, List.take_length] at h32k
            refine sw_exit ?_
            refine sl_region ?_
            refine sl_mv rfl rfl rfl ?_
            refine sl_mv rfl rfl rfl ?_
            refine sl_mv rfl rfl rfl ?_
            refine sl_indexAddr' rfl rfl rfl rfl u_64 sz_74 (by omega) (idx_map hk) rfl ?_
            first
              | refine sl_load_rpn rfl rfl rfl ag_74 sz_74 (Nat.le_of_ble_eq_true rfl) ?_
              | refine sl_load_blkn rfl rfl rfl ag_74 sz_74 (by first | exact List.Mem.head _ | exact List.Mem.tail _ (List.Mem.head _) | exact List.Mem.tail _ (List.Mem.tail _ (List.Mem.head _)) | exact List.Mem.tail _ (List.Mem.tail _ (List.Mem.tail _ (List.Mem.head _))) | exact List.Mem.tail _ (List.Mem.tail _ (List.Mem.tail _ (List.Mem.tail _ (List.Mem.head _)))) | exact List.Mem.tail _ (List.Mem.tail _ (List.Mem.tail _ (List.Mem.tail _ (List.Mem.tail _ (List.Mem.head _)))))) (Nat.le_of_ble_eq_true rfl) ?_
              | refine sl_load_ref rfl rfl rfl ag_74 sz_74 (Nat.le_of_ble_eq_true rfl) ?_
            refine sl_callf rfl rfl cal_36 (put_ok u m ps[k] [] hok1 hlt1 (by omega)) ?_ ?_ ?_ (fun _ _ h => h.elim)
            · repeat (first | exact Weaks.nil | refine Weaks.cons (Weak.junk _) ?_ | refine Weaks.cons (Weak.refl _) ?_ | refine Weaks.cons (Weak.toV rfl) ?_ | refine Weaks.cons (Weak.ref _) ?_ | refine Weaks.cons (Weak.rp_agg _) ?_)
            · repeat (first | exact Sub.refl _ | exact Sub.none _ | refine Sub.p0 ?_ | refine Sub.p1 ?_ | refine Sub.p2 ?_ | refine Sub.p3 ?_ | refine Sub.p4 ?_ | refine Sub.p5 ?_ | refine Sub.p6 ?_ | refine Sub.drop ?_)
            rintro _ _ ⟨u2, rfl, rfl⟩
            refine sl_as rfl rfl rfl ?_
            refine sl_nil ?_
            refine sl_region ?_
            refine sl_mv rfl rfl rfl ?_
            first
              | refine sl_inc rfl rfl rfl rfl (by omega) ?_
              | refine sl_add rfl rfl rfl rfl (by constructor <;> omega) ?_
              | refine sl_bin rfl rfl rfl rfl rfl ?_
            refine sl_as rfl rfl rfl ?_
            refine sl_nil ?_
            refine ⟨_, by omega, _, _, ?_, ?_, k + 1, u2, _, rfl, rfl, rfl, rfl, by omega, e8, all_take_snoc h32 hk h32k⟩
            · refine ⟨rfl, ?_⟩; repeat (first | exact WkL.nil | refine WkL.cons (Weak.refl _) ?_ | refine WkL.cons (Weak.toV rfl) ?_ | refine WkL.cons (Weak.ref _) ?_ | refine WkL.cons (Weak.rp_agg _) ?_)
            · repeat (first | exact Sub.refl _ | exact Sub.none _ | refine Sub.p0 ?_ | refine Sub.p1 ?_ | refine Sub.p2 ?_ | refine Sub.p3 ?_ | refine Sub.p4 ?_ | refine Sub.p5 ?_ | refine Sub.p6 ?_ | refine Sub.drop ?_)
      · have hk : k = ps.length := by have h9 : ¬ k < ps.length := (by simpa using hk); omega
        subst hk
        rw [List.take_length] at hm0 h32
        rw [List.nil_append] at hm0
        have hml : m.length ≤ 20000 := by
          have := flat_allc (f := encPart) (c := 1100) (ns := ps) (fun p hp => encPart_len (hok p hp) (hlt p hp))
          rw [hm0]; omega
        refine sw_exit ?_
        refine sw_seq ?_
        refine sl_region ?_
        refine sl_mv rfl rfl rfl ?_
        refine sl_callf rfl rfl cal_18 (newReader_ok m (.spare u 1 :: []) (by omega)) ?_ ?_ ?_ (fun _ _ h => h.elim)
        · repeat (first | exact Weaks.nil | refine Weaks.cons (Weak.junk _) ?_ | refine Weaks.cons (Weak.refl _) ?_ | refine Weaks.cons (Weak.toV rfl) ?_ | refine Weaks.cons (Weak.ref _) ?_ | refine Weaks.cons (Weak.rp_agg _) ?_)
        · repeat (first | exact Sub.refl _ | exact Sub.none _ | refine Sub.p0 ?_ | refine Sub.p1 ?_ | refine Sub.p2 ?_ | refine Sub.p3 ?_ | refine Sub.p4 ?_ | refine Sub.p5 ?_ | refine Sub.p6 ?_ | refine Sub.drop ?_)
        rintro _ _ ⟨q, rfl, rfl⟩
        refine sl_as rfl rfl rfl ?_
        refine sl_nil ?_
        refine sw_seq ?_
        refine sw_seq ?_
        refine sl_region ?_
        refine sl_as rfl rfl rfl ?_
        refine sl_nil ?_
        refine sw_block ?_
        refine sw_loopw (fun nX sX δX σX => ∃ (i : Nat) (l : List UInt8) (c : Chunk), (ps.length - i) = nX ∧ sX = ⟨136, (.cons 0 (.val (.list (ps.map prtV))) (.cons 7 (.ptr q 0) (.cons 8 (.val (.int .i64 (i : Int))) .nil)))⟩ ∧ δX = [] ∧ σX = c :: [] ∧ i ≤ ps.length ∧ l = (ps.drop i).flatMap encPart ∧ Rdr q (some l) c) ?_ ?_
        · refine ⟨_, _, _, ?_, ?_, 0, m, _, rfl, rfl, rfl, rfl, Nat.zero_le _, hm0, ⟨rfl, by omega⟩⟩
          · refine ⟨rfl, ?_⟩; repeat (first | exact WkL.nil | refine WkL.cons (Weak.refl _) ?_ | refine WkL.cons (Weak.toV rfl) ?_ | refine WkL.cons (Weak.ref _) ?_ | refine WkL.cons (Weak.rp_agg _) ?_)
          · repeat (first | exact Sub.refl _ | exact Sub.none _ | refine Sub.p0 ?_ | refine Sub.p1 ?_ | refine Sub.p2 ?_ | refine Sub.p3 ?_ | refine Sub.p4 ?_ | refine Sub.p5 ?_ | refine Sub.p6 ?_ | refine Sub.drop ?_)
        · rintro nX sX δX σX ⟨i, l, c, rfl, rfl, rfl, rfl, hi, hl, h1⟩
          refine sw_seq ?_
          refine sw_seq ?_
          refine sl_region ?_
          refine sl_mv rfl rfl rfl ?_
          refine sl_mv rfl rfl rfl ?_
          first
            | refine sl_len rfl rfl rfl ⟨_, u_64⟩ ?_
            | refine sl_len_sl rfl rfl rfl ⟨_, u_64⟩ ?_
          refine sl_bin rfl rfl rfl rfl rfl ?_
          refine sl_nil ?_
          refine sw_cond rfl (fun hj => ?_) (fun hj => ?_)
          · have hj1 : i < ps.length := by simpa using hj
            have hok1 := hok ps[i] (List.getElem_mem hj1)
            have hlt1 := hlt ps[i] (List.getElem_mem hj1)
            have h321 := h32 ps[i] (List.getElem_mem hj1)
            rw [drop_flat hj1] at hl
            refine sw_skip ?_
            refine sw_seq ?_
            refine sw_block ?_
            refine sw_seq ?_
            refine sl_region ?_
            refine sl_as rfl rfl rfl ?_
            refine sl_nil ?_
            refine sw_seq ?_
            refine sw_seq ?_
            refine sl_region ?_
            refine sl_mv rfl rfl rfl ?_
            refine sl_mv rfl rfl rfl ?_
            refine sl_indexAddr' rfl rfl rfl rfl u_64 sz_74 (by omega) (idx_map hj1) rfl ?_
            first
              | refine sl_fieldAddr_ptr rfl rfl rfl fo_74_0 ?_
              | refine sl_fieldAddr_rp rfl rfl rfl fo_74_0 ?_
              | refine sl_fieldAddr_ref rfl rfl rfl fo_74_0 ?_
            first
              | refine sl_load_rp1 rfl rfl rfl ag_5 rfl ?_
              | refine sl_load_blk1 rfl rfl rfl ag_5 (by first | exact List.Mem.head _ | exact List.Mem.tail _ (List.Mem.head _) | exact List.Mem.tail _ (List.Mem.tail _ (List.Mem.head _)) | exact List.Mem.tail _ (List.Mem.tail _ (List.Mem.tail _ (List.Mem.head _))) | exact List.Mem.tail _ (List.Mem.tail _ (List.Mem.tail _ (List.Mem.tail _ (List.Mem.head _)))) | exact List.Mem.tail _ (List.Mem.tail _ (List.Mem.tail _ (List.Mem.tail _ (List.Mem.tail _ (List.Mem.head _)))))) rfl ?_
            refine sl_rem rfl rfl rfl rfl (by decide) ?_
            refine sl_set 78 (.val (.int .u8 ((ps[i].what.toNat % 5 : Nat) : Int))) (rem5 ps[i].what) ?_
            refine sl_nil ?_
            refine sw_block ?_
            refine sw_seq ?_
            refine sl_region ?_
            refine sl_bin rfl rfl rfl rfl rfl ?_
            refine sl_as rfl rfl rfl ?_
            refine sl_nil ?_
            refine sw_cond rfl (fun h0 => ?_) (fun h0 => ?_)
            · rw [encPart0 (eq5 h0)] at hl
              have e := rd_enc (z := 0) hl (decN_enc hok1.1 _)
              refine sa_start [] mixed ?_
              refine sa_take 0 rfl rfl (by kernel_rfl) (by kernel_rfl) (by kernel_rfl) exacts_nil (pu_mv rfl rfl) ?_
              refine sa_take 2 rfl rfl (by kernel_rfl) (by kernel_rfl) (by kernel_rfl) exacts_nil (pu_mv rfl rfl) ?_
              refine sa_take 3 rfl rfl (by kernel_rfl) (by kernel_rfl) (by kernel_rfl) exacts_nil (pu_mv rfl rfl) ?_
              refine sa_take 4 rfl rfl (by kernel_rfl) (by kernel_rfl) (by kernel_rfl) exacts_nil (pu_indexAddr rfl rfl rfl u_64 sz_74 (by omega) (idx_map hj1) rfl) ?_
              first
                | refine sa_take 5 rfl rfl (by kernel_rfl) (by kernel_rfl) (by kernel_rfl) exacts_nil (pu_fieldAddr_ptr rfl rfl fo_74_1) ?_
                | refine sa_take 5 rfl rfl (by kernel_rfl) (by kernel_rfl) (by kernel_rfl) exacts_nil (pu_fieldAddr_rp rfl rfl fo_74_1) ?_
                | refine sa_take 5 rfl rfl (by kernel_rfl) (by kernel_rfl) (by kernel_rfl) exacts_nil (pu_fieldAddr_ref rfl rfl fo_74_1) ?_
              refine sa_take 6 rfl rfl (by kernel_rfl) (by kernel_rfl) (by kernel_rfl) exacts_nil (pu_load_rp1 rfl rfl ag_37 rfl) ?_
              refine sa_one 1 (by kernel_rfl) rfl ?_
              refine sl_callf rfl rfl cal_33 (pNum_ok q (some l) c [] h1) ?_ ?_ ?_ (fun _ _ h => h.elim)
              · repeat (first | exact Weaks.nil | refine Weaks.cons (Weak.junk _) ?_ | refine Weaks.cons (Weak.refl _) ?_ | refine Weaks.cons (Weak.toV rfl) ?_ | refine Weaks.cons (Weak.ref _) ?_ | refine Weaks.cons (Weak.rp_agg _) ?_)
              · repeat (first | exact Sub.refl _ | exact Sub.none _ | refine Sub.p0 ?_ | refine Sub.p1 ?_ | refine Sub.p2 ?_ | refine Sub.p3 ?_ | refine Sub.p4 ?_ | refine Sub.p5 ?_ | refine Sub.p6 ?_ | refine Sub.drop ?_)
              rintro _ _ ⟨rfl, c3, h3, rfl⟩
              refine sl_nil ⟨exacts_nil, ?_⟩
              rw [e] at h3 ⊢
              refine sa_take 7 rfl rfl (by kernel_rfl) (by kernel_rfl) (by kernel_rfl) exacts_nil (pu_bin rfl rfl rfl rfl) ?_
              refine sa_set 97 (.val (.bool true)) (self_u64 _) ?_
              refine sa_one 8 (by kernel_rfl) rfl ?_
              refine sl_as rfl rfl rfl ?_
              refine sl_nil ⟨exacts_nil, ?_⟩
              refine sa_done (by kernel_rfl) ?_
              refine sw_seq ?_
              refine sl_region ?_
              refine sl_mv rfl rfl rfl ?_
              refine sl_not rfl rfl rfl ?_
              refine sl_nil ?_
              refine sw_false rfl (rfl) ?_
              refine sw_skip ?_
              refine sl_region ?_
              refine sl_mv rfl rfl rfl ?_
              first
                | refine sl_inc rfl rfl rfl rfl (by omega) ?_
                | refine sl_add rfl rfl rfl rfl (by constructor <;> omega) ?_
                | refine sl_bin rfl rfl rfl rfl rfl ?_
              refine sl_as rfl rfl rfl ?_
              refine sl_nil ?_
              refine ⟨_, by omega, _, _, ?_, ?_, i + 1, _, c3, rfl, rfl, rfl, rfl, by omega, rfl, h3⟩
              · refine ⟨rfl, ?_⟩; repeat (first | exact WkL.nil | refine WkL.cons (Weak.refl _) ?_ | refine WkL.cons (Weak.toV rfl) ?_ | refine WkL.cons (Weak.ref _) ?_ | refine WkL.cons (Weak.rp_agg _) ?_)
              · repeat (first | exact Sub.refl _ | exact Sub.none _ | refine Sub.p0 ?_ | refine Sub.p1 ?_ | refine Sub.p2 ?_ | refine Sub.p3 ?_ | refine Sub.p4 ?_ | refine Sub.p5 ?_ | refine Sub.p6 ?_ | refine Sub.drop ?_)
            · refine sw_seq ?_
              refine sl_region ?_
              refine sl_bin rfl rfl rfl rfl rfl ?_
              refine sl_as rfl rfl rfl ?_
              refine sl_nil ?_
              refine sw_cond rfl (fun h0b => ?_) (fun h0b => ?_)
              · rw [encPart1 (eq5 h0b)] at hl
                have e := rd_enc (z := 0) hl (decI_enc (wrap_i64_ok _) _)
                refine sa_start [] mixed ?_
                refine sa_take 0 rfl rfl (by kernel_rfl) (by kernel_rfl) (by kernel_rfl) exacts_nil (pu_mv rfl rfl) ?_
                refine sa_take 2 rfl rfl (by kernel_rfl) (by kernel_rfl) (by kernel_rfl) exacts_nil (pu_mv rfl rfl) ?_
                refine sa_take 3 rfl rfl (by kernel_rfl) (by kernel_rfl) (by kernel_rfl) exacts_nil (pu_mv rfl rfl) ?_
                refine sa_take 4 rfl rfl (by kernel_rfl) (by kernel_rfl) (by kernel_rfl) exacts_nil (pu_indexAddr rfl rfl rfl u_64 sz_74 (by omega) (idx_map hj1) rfl) ?_
                first
                  | refine sa_take 5 rfl rfl (by kernel_rfl) (by kernel_rfl) (by kernel_rfl) exacts_nil (pu_fieldAddr_ptr rfl rfl fo_74_1) ?_
                  | refine sa_take 5 rfl rfl (by kernel_rfl) (by kernel_rfl) (by kernel_rfl) exacts_nil (pu_fieldAddr_rp rfl rfl fo_74_1) ?_
                  | refine sa_take 5 rfl rfl (by kernel_rfl) (by kernel_rfl) (by kernel_rfl) exacts_nil (pu_fieldAddr_ref rfl rfl fo_74_1) ?_
                refine sa_take 6 rfl rfl (by kernel_rfl) (by kernel_rfl) (by kernel_rfl) exacts_nil (pu_load_rp1 rfl rfl ag_37 rfl) ?_
                refine sa_take 7 rfl rfl (by kernel_rfl) (by kernel_rfl) (by kernel_rfl) exacts_nil (pu_conv_int rfl rfl is_37 u_2) ?_
                refine sa_one 1 (by kernel_rfl) rfl ?_
                refine sl_callf rfl rfl cal_20 (pInt_ok q (some l) c [] h1) ?_ ?_ ?_ (fun _ _ h => h.elim)
                · repeat (first | exact Weaks.nil | refine Weaks.cons (Weak.junk _) ?_ | refine Weaks.cons (Weak.refl _) ?_ | refine Weaks.cons (Weak.toV rfl) ?_ | refine Weaks.cons (Weak.ref _) ?_ | refine Weaks.cons (Weak.rp_agg _) ?_)
                · repeat (first | exact Sub.refl _ | exact Sub.none _ | refine Sub.p0 ?_ | refine Sub.p1 ?_ | refine Sub.p2 ?_ | refine Sub.p3 ?_ | refine Sub.p4 ?_ | refine Sub.p5 ?_ | refine Sub.p6 ?_ | refine Sub.drop ?_)
                rintro _ _ ⟨rfl, c3, h3, rfl⟩
                refine sl_nil ⟨exacts_nil, ?_⟩
                rw [e] at h3 ⊢
                refine sa_take 8 rfl rfl (by kernel_rfl) (by kernel_rfl) (by kernel_rfl) exacts_nil (pu_bin rfl rfl rfl rfl) ?_
                refine sa_set 108 (.val (.bool true)) (self_i64 _) ?_
                refine sa_one 9 (by kernel_rfl) rfl ?_
                refine sl_as rfl rfl rfl ?_
                refine sl_nil ⟨exacts_nil, ?_⟩
                refine sa_done (by kernel_rfl) ?_
                refine sw_seq ?_
                refine sl_region ?_
                refine sl_mv rfl rfl rfl ?_
                refine sl_not rfl rfl rfl ?_
                refine sl_nil ?_
                refine sw_false rfl (rfl) ?_
                refine sw_skip ?_
                refine sl_region ?_
                refine sl_mv rfl rfl rfl ?_
                first
                  | refine sl_inc rfl rfl rfl rfl (by omega) ?_
                  | refine sl_add rfl rfl rfl rfl (by constructor <;> omega) ?_
                  | refine sl_bin rfl rfl rfl rfl rfl ?_
                refine sl_as rfl rfl rfl ?_
                refine sl_nil ?_
                refine ⟨_, by omega, _, _, ?_, ?_, i + 1, _, c3, rfl, rfl, rfl, rfl, by omega, rfl, h3⟩
                · refine ⟨rfl, ?_⟩; repeat (first | exact WkL.nil | refine WkL.cons (Weak.refl _) ?_ | refine WkL.cons (Weak.toV rfl) ?_ | refine WkL.cons (Weak.ref _) ?_ | refine WkL.cons (Weak.rp_agg _) ?_)
                · repeat (first | exact Sub.refl _ | exact Sub.none _ | refine Sub.p0 ?_ | refine Sub.p1 ?_ | refine Sub.p2 ?_ | refine Sub.p3 ?_ | refine Sub.p4 ?_ | refine Sub.p5 ?_ | refine Sub.p6 ?_ | refine Sub.drop ?_)
              · refine sw_seq ?_
                refine sl_region ?_
                refine sl_bin rfl rfl rfl rfl rfl ?_
                refine sl_as rfl rfl rfl ?_
                refine sl_nil ?_
                refine sw_cond rfl (fun h0c => ?_) (fun h0c => ?_)
                · rw [encPart2 (eq5 h0c)] at hl
                  have e := rd_enc (z := []) hl (decT_enc (by have := hlt1.1; omega) _)
                  refine sa_start [] mixed ?_
                  refine sa_take 0 rfl rfl (by kernel_rfl) (by kernel_rfl) (by kernel_rfl) exacts_nil (pu_mv rfl rfl) ?_
                  refine sa_take 2 rfl rfl (by kernel_rfl) (by kernel_rfl) (by kernel_rfl) exacts_nil (pu_mv rfl rfl) ?_
                  refine sa_take 3 rfl rfl (by kernel_rfl) (by kernel_rfl) (by kernel_rfl) exacts_nil (pu_mv rfl rfl) ?_
                  refine sa_take 4 rfl rfl (by kernel_rfl) (by kernel_rfl) (by kernel_rfl) exacts_nil (pu_indexAddr rfl rfl rfl u_64 sz_74 (by omega) (idx_map hj1) rfl) ?_
                  first
                    | refine sa_take 5 rfl rfl (by kernel_rfl) (by kernel_rfl) (by kernel_rfl) exacts_nil (pu_fieldAddr_ptr rfl rfl fo_74_2) ?_
                    | refine sa_take 5 rfl rfl (by kernel_rfl) (by kernel_rfl) (by kernel_rfl) exacts_nil (pu_fieldAddr_rp rfl rfl fo_74_2) ?_
                    | refine sa_take 5 rfl rfl (by kernel_rfl) (by kernel_rfl) (by kernel_rfl) exacts_nil (pu_fieldAddr_ref rfl rfl fo_74_2) ?_
                  refine sa_take 6 rfl rfl (by kernel_rfl) (by kernel_rfl) (by kernel_rfl) exacts_nil (pu_load_rp1 rfl rfl ag_9 rfl) ?_
                  refine sa_one 1 (by kernel_rfl) rfl ?_
                  refine sl_callf rfl rfl cal_32 (pText_ok q (some l) c [] h1) ?_ ?_ ?_ (fun _ _ h => h.elim)
                  · repeat (first | exact Weaks.nil | refine Weaks.cons (Weak.junk _) ?_ | refine Weaks.cons (Weak.refl _) ?_ | refine Weaks.cons (Weak.toV rfl) ?_ | refine Weaks.cons (Weak.ref _) ?_ | refine Weaks.cons (Weak.rp_agg _) ?_)
                  · repeat (first | exact Sub.refl _ | exact Sub.none _ | refine Sub.p0 ?_ | refine Sub.p1 ?_ | refine Sub.p2 ?_ | refine Sub.p3 ?_ | refine Sub.p4 ?_ | refine Sub.p5 ?_ | refine Sub.p6 ?_ | refine Sub.drop ?_)
                  rintro _ _ ⟨rfl, c3, h3, rfl⟩
                  refine sl_nil ⟨exacts_nil, ?_⟩
                  rw [e] at h3 ⊢
                  refine sa_take 7 rfl rfl (by kernel_rfl) (by kernel_rfl) (by kernel_rfl) exacts_nil (pu_str rfl rfl rfl rfl) ?_
                  refine sa_set 118 (.val (.bool true)) (self_str _) ?_
                  refine sa_one 8 (by kernel_rfl) rfl ?_
                  refine sl_as rfl rfl rfl ?_
                  refine sl_nil ⟨exacts_nil, ?_⟩
                  refine sa_done (by kernel_rfl) ?_
                  refine sw_seq ?_
                  refine sl_region ?_
                  refine sl_mv rfl rfl rfl ?_
                  refine sl_not rfl rfl rfl ?_
                  refine sl_nil ?_
                  refine sw_false rfl (rfl) ?_
                  refine sw_skip ?_
                  refine sl_region ?_
                  refine sl_mv rfl rfl rfl ?_
                  first
                    | refine sl_inc rfl rfl rfl rfl (by omega) ?_
                    | refine sl_add rfl rfl rfl rfl (by constructor <;> omega) ?_
                    | refine sl_bin rfl rfl rfl rfl rfl ?_
                  refine sl_as rfl rfl rfl ?_
                  refine sl_nil ?_
                  refine ⟨_, by omega, _, _, ?_, ?_, i + 1, _, c3, rfl, rfl, rfl, rfl, by omega, rfl, h3⟩
                  · refine ⟨rfl, ?_⟩; repeat (first | exact WkL.nil | refine WkL.cons (Weak.refl _) ?_ | refine WkL.cons (Weak.toV rfl) ?_ | refine WkL.cons (Weak.ref _) ?_ | refine WkL.cons (Weak.rp_agg _) ?_)
                  · repeat (first | exact Sub.refl _ | exact Sub.none _ | refine Sub.p0 ?_ | refine Sub.p1 ?_ | refine Sub.p2 ?_ | refine Sub.p3 ?_ | refine Sub.p4 ?_ | refine Sub.p5 ?_ | refine Sub.p6 ?_ | refine Sub.drop ?_)
                · refine sw_seq ?_
                  refine sl_region ?_
                  refine sl_bin rfl rfl rfl rfl rfl ?_
                  refine sl_as rfl rfl rfl ?_
                  refine sl_nil ?_
                  refine sw_cond rfl (fun h0d => ?_) (fun h0d => ?_)
                  · rw [encPart3 (eq5 h0d)] at hl
                    have e := rd_enc (z := false) hl (decB_enc _ _)
                    refine sa_start [] mixed ?_
                    refine sa_take 0 rfl rfl (by kernel_rfl) (by kernel_rfl) (by kernel_rfl) exacts_nil (pu_mv rfl rfl) ?_
                    refine sa_take 2 rfl rfl (by kernel_rfl) (by kernel_rfl) (by kernel_rfl) exacts_nil (pu_mv rfl rfl) ?_
                    refine sa_take 3 rfl rfl (by kernel_rfl) (by kernel_rfl) (by kernel_rfl) exacts_nil (pu_mv rfl rfl) ?_
                    refine sa_take 4 rfl rfl (by kernel_rfl) (by kernel_rfl) (by kernel_rfl) exacts_nil (pu_indexAddr rfl rfl rfl u_64 sz_74 (by omega) (idx_map hj1) rfl) ?_
                    first
                      | refine sa_take 5 rfl rfl (by kernel_rfl) (by kernel_rfl) (by kernel_rfl) exacts_nil (pu_fieldAddr_ptr rfl rfl fo_74_1) ?_
                      | refine sa_take 5 rfl rfl (by kernel_rfl) (by kernel_rfl) (by kernel_rfl) exacts_nil (pu_fieldAddr_rp rfl rfl fo_74_1) ?_
                      | refine sa_take 5 rfl rfl (by kernel_rfl) (by kernel_rfl) (by kernel_rfl) exacts_nil (pu_fieldAddr_ref rfl rfl fo_74_1) ?_
                    refine sa_take 6 rfl rfl (by kernel_rfl) (by kernel_rfl) (by kernel_rfl) exacts_nil (pu_load_rp1 rfl rfl ag_37 rfl) ?_
                    refine sa_take 7 rfl rfl (by kernel_rfl) (by kernel_rfl) (by kernel_rfl) exacts_nil (pu_rem rfl rfl rfl (by decide)) ?_
                    refine sa_take 8 rfl rfl (by kernel_rfl) (by kernel_rfl) (by kernel_rfl) exacts_nil (pu_bin rfl rfl rfl rfl) ?_
                    refine sa_set 129 (.val (boolV (ps[i].n % 2 == 1))) (odd_bool ps[i].n) ?_
                    refine sa_one 1 (by kernel_rfl) rfl ?_
                    refine sl_callf rfl rfl cal_34 (pBool_ok q (some l) c [] h1) ?_ ?_ ?_ (fun _ _ h => h.elim)
                    · repeat (first | exact Weaks.nil | refine Weaks.cons (Weak.junk _) ?_ | refine Weaks.cons (Weak.refl _) ?_ | refine Weaks.cons (Weak.toV rfl) ?_ | refine Weaks.cons (Weak.ref _) ?_ | refine Weaks.cons (Weak.rp_agg _) ?_)
                    · repeat (first | exact Sub.refl _ | exact Sub.none _ | refine Sub.p0 ?_ | refine Sub.p1 ?_ | refine Sub.p2 ?_ | refine Sub.p3 ?_ | refine Sub.p4 ?_ | refine Sub.p5 ?_ | refine Sub.p6 ?_ | refine Sub.drop ?_)
                    rintro _ _ ⟨rfl, c3, h3, rfl⟩
                    refine sl_nil ⟨exacts_nil, ?_⟩
                    rw [e] at h3 ⊢
                    refine sa_take 9 rfl rfl (by kernel_rfl) (by kernel_rfl) (by kernel_rfl) exacts_nil (pu_bool_eq rfl rfl rfl u_4) ?_
                    refine sa_set 130 (.val (.bool true)) (self_bool _) ?_
                    refine sa_one 10 (by kernel_rfl) rfl ?_
                    refine sl_as rfl rfl rfl ?_
                    refine sl_nil ⟨exacts_nil, ?_⟩
                    refine sa_done (by kernel_rfl) ?_
                    refine sw_seq ?_
                    refine sl_region ?_
                    refine sl_mv rfl rfl rfl ?_
                    refine sl_not rfl rfl rfl ?_
                    refine sl_nil ?_
                    refine sw_false rfl (rfl) ?_
                    refine sw_skip ?_
                    refine sl_region ?_
                    refine sl_mv rfl rfl rfl ?_
                    first
                      | refine sl_inc rfl rfl rfl rfl (by omega) ?_
                      | refine sl_add rfl rfl rfl rfl (by constructor <;> omega) ?_
                      | refine sl_bin rfl rfl rfl rfl rfl ?_
                    refine sl_as rfl rfl rfl ?_
                    refine sl_nil ?_
                    refine ⟨_, by omega, _, _, ?_, ?_, i + 1, _, c3, rfl, rfl, rfl, rfl, by omega, rfl, h3⟩
                    · refine ⟨rfl, ?_⟩; repeat (first | exact WkL.nil | refine WkL.cons (Weak.refl _) ?_ | refine WkL.cons (Weak.toV rfl) ?_ | refine WkL.cons (Weak.ref _) ?_ | refine WkL.cons (Weak.rp_agg _) ?_)
                    · repeat (first | exact Sub.refl _ | exact Sub.none _ | refine Sub.p0 ?_ | refine Sub.p1 ?_ | refine Sub.p2 ?_ | refine Sub.p3 ?_ | refine Sub.p4 ?_ | refine Sub.p5 ?_ | refine Sub.p6 ?_ | refine Sub.drop ?_)
                  · rw [encPart4 (ne5 h0) (ne5 h0b) (ne5 h0c) (ne5 h0d)] at hl
                    have e := rd_enc (z := noSumm) hl (decSumm_enc hok1.2 hlt1.2 h321 _)
                    have hm9 := hlt1.2
                    refine sa_start [] mixed ?_
                    refine sa_take 0 rfl rfl (by kernel_rfl) (by kernel_rfl) (by kernel_rfl) exacts_nil (pu_mv rfl rfl) ?_
                    refine sa_take 2 rfl rfl (by kernel_rfl) (by kernel_rfl) (by kernel_rfl) exacts_nil (pu_mv rfl rfl) ?_
                    refine sa_take 3 rfl rfl (by kernel_rfl) (by kernel_rfl) (by kernel_rfl) exacts_nil (pu_mv rfl rfl) ?_
                    refine sa_take 4 rfl rfl (by kernel_rfl) (by kernel_rfl) (by kernel_rfl) exacts_nil (pu_indexAddr rfl rfl rfl u_64 sz_74 (by omega) (idx_map hj1) rfl) ?_
                    first
                      | refine sa_take 5 rfl rfl (by kernel_rfl) (by kernel_rfl) (by kernel_rfl) exacts_nil (pu_fieldAddr_ptr rfl rfl fo_74_3) ?_
                      | refine sa_take 5 rfl rfl (by kernel_rfl) (by kernel_rfl) (by kernel_rfl) exacts_nil (pu_fieldAddr_rp rfl rfl fo_74_3) ?_
                      | refine sa_take 5 rfl rfl (by kernel_rfl) (by kernel_rfl) (by kernel_rfl) exacts_nil (pu_fieldAddr_ref rfl rfl fo_74_3) ?_
                    refine sa_take 6 rfl rfl (by kernel_rfl) (by kernel_rfl) (by kernel_rfl) exacts_nil (pu_load_rpn rfl rfl ag_72 sz_72 (Nat.le_of_ble_eq_true rfl)) ?_
                    refine sa_one 1 (by kernel_rfl) rfl ?_
                    refine sl_callf rfl rfl cal_45 (pSumm_ok q (some l) c [] h1) ?_ ?_ ?_ (fun _ _ h => h.elim)
                    · repeat (first | exact Weaks.nil | refine Weaks.cons (Weak.junk _) ?_ | refine Weaks.cons (Weak.refl _) ?_ | refine Weaks.cons (Weak.toV rfl) ?_ | refine Weaks.cons (Weak.ref _) ?_ | refine Weaks.cons (Weak.rp_agg _) ?_)
                    · repeat (first | exact Sub.refl _ | exact Sub.none _ | refine Sub.p0 ?_ | refine Sub.p1 ?_ | refine Sub.p2 ?_ | refine Sub.p3 ?_ | refine Sub.p4 ?_ | refine Sub.p5 ?_ | refine Sub.p6 ?_ | refine Sub.drop ?_)
                    rintro _ _ ⟨rfl, c3, h3, rfl⟩
                    refine sl_nil ⟨exacts_nil, ?_⟩
                    rw [e] at h3 ⊢
                    refine sa_one 7 (by kernel_rfl) rfl ?_
                    refine sl_callf rfl rfl cal_47 (plain_ok ps[i].s (c3 :: []) (by have := hm9.2.1; omega)) ?_ ?_ ?_ (fun _ _ h => h.elim)
                    · repeat (first | exact Weaks.nil | refine Weaks.cons (Weak.junk _) ?_ | refine Weaks.cons (Weak.refl _) ?_ | refine Weaks.cons (Weak.toV rfl) ?_ | refine Weaks.cons (Weak.ref _) ?_ | refine Weaks.cons (Weak.rp_agg _) ?_)
                    · repeat (first | exact Sub.refl _ | exact Sub.none _ | refine Sub.p0 ?_ | refine Sub.p1 ?_ | refine Sub.p2 ?_ | refine Sub.p3 ?_ | refine Sub.p4 ?_ | refine Sub.p5 ?_ | refine Sub.p6 ?_ | refine Sub.drop ?_)
                    rintro _ _ ⟨rfl, rfl⟩
                    refine sl_nil ⟨exacts_nil, ?_⟩
                    refine sa_one 8 (by kernel_rfl) rfl ?_
                    refine sl_callf rfl rfl cal_44 (hsumm_ok (normS ps[i].s) (normS ps[i].s) (c3 :: []) ⟨by have := hm9.1; show ps[i].s.alarms.length ≤ _; omega, by have := hm9.2.1; show (ps[i].s.mod.map normM).length ≤ _; rw [List.length_map]; omega⟩) ?_ ?_ ?_ (fun _ _ h => h.elim)
                    · repeat (first | exact Weaks.nil | refine Weaks.cons (Weak.junk _) ?_ | refine Weaks.cons (Weak.refl _) ?_ | refine Weaks.cons (Weak.toV rfl) ?_ | refine Weaks.cons (Weak.ref _) ?_ | refine Weaks.cons (Weak.rp_agg _) ?_)
                    · repeat (first | exact Sub.refl _ | exact Sub.none _ | refine Sub.p0 ?_ | refine Sub.p1 ?_ | refine Sub.p2 ?_ | refine Sub.p3 ?_ | refine Sub.p4 ?_ | refine Sub.p5 ?_ | refine Sub.p6 ?_ | refine Sub.drop ?_)
                    rintro _ _ ⟨rfl, rfl⟩
                    refine sl_nil ⟨exacts_nil, ?_⟩
                    refine sa_set 87 (.val (.bool true)) (congrArg (fun b => D.val (.bool b)) (decide_eq_true rfl)) ?_
                    refine sa_one 9 (by kernel_rfl) rfl ?_
                    refine sl_as rfl rfl rfl ?_
                    refine sl_nil ⟨exacts_nil, ?_⟩
                    refine sa_done (by kernel_rfl) ?_
                    refine sw_seq ?_
                    refine sl_region ?_
                    refine sl_mv rfl rfl rfl ?_
                    refine sl_not rfl rfl rfl ?_
                    refine sl_nil ?_
                    refine sw_false rfl (rfl) ?_
                    refine sw_skip ?_
                    refine sl_region ?_
                    refine sl_mv rfl rfl rfl ?_
                    first
                      | refine sl_inc rfl rfl rfl rfl (by omega) ?_
                      | refine sl_add rfl rfl rfl rfl (by constructor <;> omega) ?_
                      | refine sl_bin rfl rfl rfl rfl rfl ?_
                    refine sl_as rfl rfl rfl ?_
                    refine sl_nil ?_
                    refine ⟨_, by omega, _, _, ?_, ?_, i + 1, _, c3, rfl, rfl, rfl, rfl, by omega, rfl, h3⟩
                    · refine ⟨rfl, ?_⟩; repeat (first | exact WkL.nil | refine WkL.cons (Weak.refl _) ?_ | refine WkL.cons (Weak.toV rfl) ?_ | refine WkL.cons (Weak.ref _) ?_ | refine WkL.cons (Weak.rp_agg _) ?_)
                    · repeat (first | exact Sub.refl _ | exact Sub.none _ | refine Sub.p0 ?_ | refine Sub.p1 ?_ | refine Sub.p2 ?_ | refine Sub.p3 ?_ | refine Sub.p4 ?_ | refine Sub.p5 ?_ | refine Sub.p6 ?_ | refine Sub.drop ?_)
          · have hj1 : i = ps.length := by have h9 : ¬ i < ps.length := (by simpa using hj); omega
            subst hj1
            rw [List.drop_length] at hl
            subst hl
            refine sw_exit ?_
            refine sw_seq ?_
            refine sl_region ?_
            refine sl_mv rfl rfl rfl ?_
            refine sl_callf rfl rfl cal_21 (done_ok q (some []) c [] h1) ?_ ?_ ?_ (fun _ _ h => h.elim)
            · repeat (first | exact Weaks.nil | refine Weaks.cons (Weak.junk _) ?_ | refine Weaks.cons (Weak.refl _) ?_ | refine Weaks.cons (Weak.toV rfl) ?_ | refine Weaks.cons (Weak.ref _) ?_ | refine Weaks.cons (Weak.rp_agg _) ?_)
            · repeat (first | exact Sub.refl _ | exact Sub.none _ | refine Sub.p0 ?_ | refine Sub.p1 ?_ | refine Sub.p2 ?_ | refine Sub.p3 ?_ | refine Sub.p4 ?_ | refine Sub.p5 ?_ | refine Sub.p6 ?_ | refine Sub.drop ?_)
            rintro _ _ ⟨rfl, rfl⟩
            refine sl_bin rfl rfl rfl rfl rfl ?_
            refine sl_as rfl rfl rfl ?_
            refine sl_nil ?_
            refine sw_ret ⟨rfl, _, _, res_one rfl rfl, ?_, ⟨rfl, rfl⟩⟩
            repeat (first | exact Sub.refl _ | exact Sub.none _ | refine Sub.p0 ?_ | refine Sub.p1 ?_ | refine Sub.p2 ?_ | refine Sub.p3 ?_ | refine Sub.p4 ?_ | refine Sub.p5 ?_ | refine Sub.p6 ?_ | refine Sub.drop ?_)

end Go.Proofs.Ytioechdfghglhaa
