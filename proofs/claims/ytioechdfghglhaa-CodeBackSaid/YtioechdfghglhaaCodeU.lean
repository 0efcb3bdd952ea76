/- Walks: printed by a program of this session out of its script CodeU. -/
import Derived.Test.YtioechdfghglhaaSlT
import Derived.Test.YtioechdfghglhaaP12
import Derived.Test.YtioechdfghglhaaCodeT
namespace Go.Proofs.Ytioechdfghglhaa
set_option linter.unusedVariables false
set_option linter.unusedSimpArgs false
set_option maxRecDepth 4000
set_option maxHeartbeats 4000000
open Go Go.RowKit SL


/-- plain: intervals that say nothing without bounds. -/
theorem plain_ok (s : Smy) (σ : List Chunk) (hn : s.mod.length ≤ 100000) :
    FSpec Try.prog 47 [.val (smyV s)] σ (fun d σ' => d = .val (smyV (normS s)) ∧ σ' = σ) := by
  obtain ⟨r, hr⟩ : ∃ r, r = normV s.ret := ⟨_, rfl⟩
  refine spec_of_sw Try.func47 rfl ?_
  refine sw_seq ?_
  refine sl_region ?_
  refine sl_bx rfl rfl rfl rfl (fun b1 => ?_)
  refine sl_alloc rfl rfl zd_72 (fun b2 => ?_)
  refine sl_nil ?_
  refine sw_seq ?_
  refine sw_seq ?_
  refine sl_region ?_
  first
    | refine sl_fieldAddr_ptr rfl rfl rfl fo_72_2 ?_
    | refine sl_fieldAddr_rp rfl rfl rfl fo_72_2 ?_
    | refine sl_fieldAddr_ref rfl rfl rfl fo_72_2 ?_
  first
    | refine sl_fieldAddr_ptr rfl rfl rfl fo_69_0 ?_
    | refine sl_fieldAddr_rp rfl rfl rfl fo_69_0 ?_
    | refine sl_fieldAddr_ref rfl rfl rfl fo_69_0 ?_
  first
    | refine sl_load_rp1 rfl rfl rfl ag_4 rfl ?_
    | refine sl_load_blk1 rfl rfl rfl ag_4 (by first | exact List.Mem.head _ | exact List.Mem.tail _ (List.Mem.head _) | exact List.Mem.tail _ (List.Mem.tail _ (List.Mem.head _)) | exact List.Mem.tail _ (List.Mem.tail _ (List.Mem.tail _ (List.Mem.head _))) | exact List.Mem.tail _ (List.Mem.tail _ (List.Mem.tail _ (List.Mem.tail _ (List.Mem.head _)))) | exact List.Mem.tail _ (List.Mem.tail _ (List.Mem.tail _ (List.Mem.tail _ (List.Mem.tail _ (List.Mem.head _)))))) rfl ?_
  refine sl_not rfl rfl rfl ?_
  refine sl_nil ?_
  refine sw_cutk ⟨36, (.cons 1 (.ptr b1 0) (.cons 2 (.ptr b2 0) .nil))⟩ (.blk b1 [.val (.list (s.alarms.map almV)), .val (.bool s.ends), .val (.bool r.some), .val (.int .i64 r.lo), .val (.int .i64 r.hi), .val (.list (s.mod.map nmdV))] :: .blk b2 zeroS :: σ) (True) ?_ ?_
  · refine sw_cond rfl (fun hs => ?_) (fun hs => ?_)
    · have hs : s.ret.some = false := by simpa using hs
      rw [normV_f hs] at hr
      subst hr
      refine sl_region ?_
      refine sl_bd rfl rfl .nil bi_69 zd_69 rfl ?_
      first
        | refine sl_fieldAddr_ptr rfl rfl rfl fo_72_2 ?_
        | refine sl_fieldAddr_rp rfl rfl rfl fo_72_2 ?_
        | refine sl_fieldAddr_ref rfl rfl rfl fo_72_2 ?_
      first
        | refine sl_st rfl rfl rfl rfl sz_69 rfl rfl rfl (Nat.le_of_ble_eq_true rfl) ?_
        | (refine sl_f1 ?_; refine sl_st rfl rfl rfl rfl sz_69 rfl rfl rfl (Nat.le_of_ble_eq_true rfl) ?_)
        | (refine sl_f2 ?_; refine sl_st rfl rfl rfl rfl sz_69 rfl rfl rfl (Nat.le_of_ble_eq_true rfl) ?_)
        | (refine sl_f3 ?_; refine sl_st rfl rfl rfl rfl sz_69 rfl rfl rfl (Nat.le_of_ble_eq_true rfl) ?_)
        | (refine sl_f4 ?_; refine sl_st rfl rfl rfl rfl sz_69 rfl rfl rfl (Nat.le_of_ble_eq_true rfl) ?_)
        | (refine sl_f5 ?_; refine sl_st rfl rfl rfl rfl sz_69 rfl rfl rfl (Nat.le_of_ble_eq_true rfl) ?_)
        | (refine sl_f6 ?_; refine sl_st rfl rfl rfl rfl sz_69 rfl rfl rfl (Nat.le_of_ble_eq_true rfl) ?_)
      refine sl_nil ?_
      refine ⟨?_, ?_, rfl, trivial⟩
      · refine ⟨rfl, ?_⟩; repeat (first | exact WkL.nil | refine WkL.cons (Weak.refl _) ?_ | refine WkL.cons (Weak.toV rfl) ?_ | refine WkL.cons (Weak.ref _) ?_ | refine WkL.cons (Weak.rp_agg _) ?_)
      · repeat (first | exact Sub.refl _ | exact Sub.none _ | refine Sub.p0 ?_ | refine Sub.p1 ?_ | refine Sub.p2 ?_ | refine Sub.p3 ?_ | refine Sub.p4 ?_ | refine Sub.p5 ?_ | refine Sub.p6 ?_ | refine Sub.drop ?_)
    · have hs : s.ret.some = true := by simpa using hs
      rw [normV_t hs] at hr
      subst hr
      refine sw_skip ?_
      refine ⟨?_, ?_, rfl, trivial⟩
      · refine ⟨rfl, ?_⟩; repeat (first | exact WkL.nil | refine WkL.cons (Weak.refl _) ?_ | refine WkL.cons (Weak.toV rfl) ?_ | refine WkL.cons (Weak.ref _) ?_ | refine WkL.cons (Weak.rp_agg _) ?_)
      · repeat (first | exact Sub.refl _ | exact Sub.none _ | refine Sub.p0 ?_ | refine Sub.p1 ?_ | refine Sub.p2 ?_ | refine Sub.p3 ?_ | refine Sub.p4 ?_ | refine Sub.p5 ?_ | refine Sub.p6 ?_ | refine Sub.drop ?_)
  · intro _
    refine sw_seq ?_
    refine sl_region ?_
    first
      | refine sl_fieldAddr_ptr rfl rfl rfl fo_72_3 ?_
      | refine sl_fieldAddr_rp rfl rfl rfl fo_72_3 ?_
      | refine sl_fieldAddr_ref rfl rfl rfl fo_72_3 ?_
    first
      | refine sl_load_rp1 rfl rfl rfl ag_70 rfl ?_
      | refine sl_load_blk1 rfl rfl rfl ag_70 (by first | exact List.Mem.head _ | exact List.Mem.tail _ (List.Mem.head _) | exact List.Mem.tail _ (List.Mem.tail _ (List.Mem.head _)) | exact List.Mem.tail _ (List.Mem.tail _ (List.Mem.tail _ (List.Mem.head _))) | exact List.Mem.tail _ (List.Mem.tail _ (List.Mem.tail _ (List.Mem.tail _ (List.Mem.head _)))) | exact List.Mem.tail _ (List.Mem.tail _ (List.Mem.tail _ (List.Mem.tail _ (List.Mem.tail _ (List.Mem.head _)))))) rfl ?_
    refine sl_append_new rfl rfl rfl rfl u_70 ⟨_, u_70, rfl⟩ el_127 (by repeat (first | exact sized_nil | exact sized_map (fun _ => ⟨rfl, rfl⟩) | refine sized_cons rfl rfl ?_ | refine sized_append ?_ ?_ | assumption)) (by rw [List.length_map]; omega) (fun hn12 => ?_) (fun b12 c12 z12 hn12 hc12 => ?_)
    · have hm : s.mod = [] := List.map_eq_nil_iff.mp hn12
      first
        | refine sl_fieldAddr_ptr rfl rfl rfl fo_72_3 ?_
        | refine sl_fieldAddr_rp rfl rfl rfl fo_72_3 ?_
        | refine sl_fieldAddr_ref rfl rfl rfl fo_72_3 ?_
      first
        | refine sl_st rfl rfl rfl rfl sz_70 rfl rfl rfl (Nat.le_of_ble_eq_true rfl) ?_
        | (refine sl_f1 ?_; refine sl_st rfl rfl rfl rfl sz_70 rfl rfl rfl (Nat.le_of_ble_eq_true rfl) ?_)
        | (refine sl_f2 ?_; refine sl_st rfl rfl rfl rfl sz_70 rfl rfl rfl (Nat.le_of_ble_eq_true rfl) ?_)
        | (refine sl_f3 ?_; refine sl_st rfl rfl rfl rfl sz_70 rfl rfl rfl (Nat.le_of_ble_eq_true rfl) ?_)
        | (refine sl_f4 ?_; refine sl_st rfl rfl rfl rfl sz_70 rfl rfl rfl (Nat.le_of_ble_eq_true rfl) ?_)
        | (refine sl_f5 ?_; refine sl_st rfl rfl rfl rfl sz_70 rfl rfl rfl (Nat.le_of_ble_eq_true rfl) ?_)
        | (refine sl_f6 ?_; refine sl_st rfl rfl rfl rfl sz_70 rfl rfl rfl (Nat.le_of_ble_eq_true rfl) ?_)
      refine sl_nil ?_
      refine sw_seq ?_
      refine sw_seq ?_
      refine sl_region ?_
      refine sl_as rfl rfl rfl ?_
      refine sl_nil ?_
      refine sw_block ?_
      refine sw_loopw (fun nX sX δX σX => ∃ (j : Nat), (1) = nX ∧ sX = ⟨36, (.cons 1 (.ptr b1 0) (.cons 2 (.ptr b2 0) (.cons 3 (.val (.int .i64 (j : Int))) .nil)))⟩ ∧ δX = [] ∧ σX = .blk b1 [.val (.list (s.alarms.map almV)), .val (.bool s.ends), .val (.bool r.some), .val (.int .i64 r.lo), .val (.int .i64 r.hi), .fix []] :: .blk b2 zeroS :: σ) ?_ ?_
      · refine ⟨_, _, _, ?_, ?_, 0, rfl, rfl, rfl, rfl⟩
        · refine ⟨rfl, ?_⟩; repeat (first | exact WkL.nil | refine WkL.cons (Weak.refl _) ?_ | refine WkL.cons (Weak.toV rfl) ?_ | refine WkL.cons (Weak.ref _) ?_ | refine WkL.cons (Weak.rp_agg _) ?_)
        · repeat (first | exact Sub.refl _ | exact Sub.none _ | refine Sub.p0 ?_ | refine Sub.p1 ?_ | refine Sub.p2 ?_ | refine Sub.p3 ?_ | refine Sub.p4 ?_ | refine Sub.p5 ?_ | refine Sub.p6 ?_ | refine Sub.drop ?_)
      · rintro nX sX δX σX ⟨j, rfl, rfl, rfl, rfl⟩
        refine sw_seq ?_
        refine sw_seq ?_
        refine sl_region ?_
        refine sl_mv rfl rfl rfl ?_
        first
          | refine sl_fieldAddr_ptr rfl rfl rfl fo_72_3 ?_
          | refine sl_fieldAddr_rp rfl rfl rfl fo_72_3 ?_
          | refine sl_fieldAddr_ref rfl rfl rfl fo_72_3 ?_
        first
          | refine sl_load_rp1 rfl rfl rfl ag_70 rfl ?_
          | refine sl_load_blk1 rfl rfl rfl ag_70 (by first | exact List.Mem.head _ | exact List.Mem.tail _ (List.Mem.head _) | exact List.Mem.tail _ (List.Mem.tail _ (List.Mem.head _)) | exact List.Mem.tail _ (List.Mem.tail _ (List.Mem.tail _ (List.Mem.head _))) | exact List.Mem.tail _ (List.Mem.tail _ (List.Mem.tail _ (List.Mem.tail _ (List.Mem.head _)))) | exact List.Mem.tail _ (List.Mem.tail _ (List.Mem.tail _ (List.Mem.tail _ (List.Mem.tail _ (List.Mem.head _)))))) rfl ?_
        first
          | refine sl_len rfl rfl rfl ⟨_, u_70⟩ ?_
          | refine sl_len_sl rfl rfl rfl ⟨_, u_70⟩ ?_
        refine sl_bin rfl rfl rfl rfl rfl ?_
        refine sl_nil ?_
        refine sw_false rfl (decide_eq_false (by show ¬ ((j : Int) < 0); omega)) ?_
        refine sw_exit ?_
        refine sw_seq ?_
        refine sl_region ?_
        first
          | refine sl_load_rpn rfl rfl rfl ag_72 sz_72 (Nat.le_of_ble_eq_true rfl) ?_
          | refine sl_load_blkn rfl rfl rfl ag_72 sz_72 (by first | exact List.Mem.head _ | exact List.Mem.tail _ (List.Mem.head _) | exact List.Mem.tail _ (List.Mem.tail _ (List.Mem.head _)) | exact List.Mem.tail _ (List.Mem.tail _ (List.Mem.tail _ (List.Mem.head _))) | exact List.Mem.tail _ (List.Mem.tail _ (List.Mem.tail _ (List.Mem.tail _ (List.Mem.head _)))) | exact List.Mem.tail _ (List.Mem.tail _ (List.Mem.tail _ (List.Mem.tail _ (List.Mem.tail _ (List.Mem.head _)))))) (Nat.le_of_ble_eq_true rfl) ?_
          | refine sl_load_ref rfl rfl rfl ag_72 sz_72 (Nat.le_of_ble_eq_true rfl) ?_
        first
          | refine sl_st rfl rfl rfl rfl sz_72 rfl rfl rfl (Nat.le_of_ble_eq_true rfl) ?_
          | (refine sl_f1 ?_; refine sl_st rfl rfl rfl rfl sz_72 rfl rfl rfl (Nat.le_of_ble_eq_true rfl) ?_)
          | (refine sl_f2 ?_; refine sl_st rfl rfl rfl rfl sz_72 rfl rfl rfl (Nat.le_of_ble_eq_true rfl) ?_)
          | (refine sl_f3 ?_; refine sl_st rfl rfl rfl rfl sz_72 rfl rfl rfl (Nat.le_of_ble_eq_true rfl) ?_)
          | (refine sl_f4 ?_; refine sl_st rfl rfl rfl rfl sz_72 rfl rfl rfl (Nat.le_of_ble_eq_true rfl) ?_)
          | (refine sl_f5 ?_; refine sl_st rfl rfl rfl rfl sz_72 rfl rfl rfl (Nat.le_of_ble_eq_true rfl) ?_)
          | (refine sl_f6 ?_; refine sl_st rfl rfl rfl rfl sz_72 rfl rfl rfl (Nat.le_of_ble_eq_true rfl) ?_)
        refine sl_nil ?_
        refine sw_ret ⟨rfl, _, _, ResD.weak (res_celln rfl rfl ag_72 sz_72 (by first | exact List.Mem.head _ | exact List.Mem.tail _ (List.Mem.head _) | exact List.Mem.tail _ (List.Mem.tail _ (List.Mem.head _)) | exact List.Mem.tail _ (List.Mem.tail _ (List.Mem.tail _ (List.Mem.head _))) | exact List.Mem.tail _ (List.Mem.tail _ (List.Mem.tail _ (List.Mem.tail _ (List.Mem.head _)))) | exact List.Mem.tail _ (List.Mem.tail _ (List.Mem.tail _ (List.Mem.tail _ (List.Mem.tail _ (List.Mem.head _)))))) (Nat.le_of_ble_eq_true rfl)) ((Weak.toV rfl) ), ?_, ⟨by unfold normS; rw [hm, ← hr]; rfl, rfl⟩⟩
        repeat (first | exact Sub.refl _ | exact Sub.none _ | refine Sub.p0 ?_ | refine Sub.p1 ?_ | refine Sub.p2 ?_ | refine Sub.p3 ?_ | refine Sub.p4 ?_ | refine Sub.p5 ?_ | refine Sub.p6 ?_ | refine Sub.drop ?_)
    · first
        | refine sl_fieldAddr_ptr rfl rfl rfl fo_72_3 ?_
        | refine sl_fieldAddr_rp rfl rfl rfl fo_72_3 ?_
        | refine sl_fieldAddr_ref rfl rfl rfl fo_72_3 ?_
      first
        | refine sl_st rfl rfl rfl rfl sz_70 rfl rfl rfl (Nat.le_of_ble_eq_true rfl) ?_
        | (refine sl_f1 ?_; refine sl_st rfl rfl rfl rfl sz_70 rfl rfl rfl (Nat.le_of_ble_eq_true rfl) ?_)
        | (refine sl_f2 ?_; refine sl_st rfl rfl rfl rfl sz_70 rfl rfl rfl (Nat.le_of_ble_eq_true rfl) ?_)
        | (refine sl_f3 ?_; refine sl_st rfl rfl rfl rfl sz_70 rfl rfl rfl (Nat.le_of_ble_eq_true rfl) ?_)
        | (refine sl_f4 ?_; refine sl_st rfl rfl rfl rfl sz_70 rfl rfl rfl (Nat.le_of_ble_eq_true rfl) ?_)
        | (refine sl_f5 ?_; refine sl_st rfl rfl rfl rfl sz_70 rfl rfl rfl (Nat.le_of_ble_eq_true rfl) ?_)
        | (refine sl_f6 ?_; refine sl_st rfl rfl rfl rfl sz_70 rfl rfl rfl (Nat.le_of_ble_eq_true rfl) ?_)
      refine sl_nil ?_
      refine sw_seq ?_
      refine sw_seq ?_
      refine sl_region ?_
      refine sl_as rfl rfl rfl ?_
      refine sl_nil ?_
      refine sw_block ?_
      refine sw_loopw (fun nX sX δX σX => ∃ (j : Nat), (s.mod.length - j) = nX ∧ sX = ⟨36, (.cons 1 (.ptr b1 0) (.cons 2 (.ptr b2 0) (.cons 3 (.val (.int .i64 (j : Int))) .nil)))⟩ ∧ δX = [] ∧ σX = .blk b1 [.val (.list (s.alarms.map almV)), .val (.bool s.ends), .val (.bool r.some), .val (.int .i64 r.lo), .val (.int .i64 r.hi), .sl b12 0 (s.mod.map nmdV).length c12] :: .blk b12 (rowsD (((mix normM s.mod j).map nmdV).map rowOf) z12) :: .blk b2 zeroS :: σ ∧ j ≤ s.mod.length) ?_ ?_
      · refine ⟨_, _, _, ?_, ?_, 0, rfl, rfl, rfl, rfl, Nat.zero_le _⟩
        · refine ⟨rfl, ?_⟩; repeat (first | exact WkL.nil | refine WkL.cons (Weak.refl _) ?_ | refine WkL.cons (Weak.toV rfl) ?_ | refine WkL.cons (Weak.ref _) ?_ | refine WkL.cons (Weak.rp_agg _) ?_)
        · repeat (first | exact Sub.refl _ | exact Sub.none _ | refine Sub.p0 ?_ | refine Sub.p1 ?_ | refine Sub.p2 ?_ | refine Sub.p3 ?_ | refine Sub.p4 ?_ | refine Sub.p5 ?_ | refine Sub.p6 ?_ | refine Sub.drop ?_)
      · rintro nX sX δX σX ⟨j, rfl, rfl, rfl, rfl, hj0⟩
        refine sw_seq ?_
        refine sw_seq ?_
        refine sl_region ?_
        refine sl_mv rfl rfl rfl ?_
        first
          | refine sl_fieldAddr_ptr rfl rfl rfl fo_72_3 ?_
          | refine sl_fieldAddr_rp rfl rfl rfl fo_72_3 ?_
          | refine sl_fieldAddr_ref rfl rfl rfl fo_72_3 ?_
        first
          | refine sl_load_rp1 rfl rfl rfl ag_70 rfl ?_
          | refine sl_load_blk1 rfl rfl rfl ag_70 (by first | exact List.Mem.head _ | exact List.Mem.tail _ (List.Mem.head _) | exact List.Mem.tail _ (List.Mem.tail _ (List.Mem.head _)) | exact List.Mem.tail _ (List.Mem.tail _ (List.Mem.tail _ (List.Mem.head _))) | exact List.Mem.tail _ (List.Mem.tail _ (List.Mem.tail _ (List.Mem.tail _ (List.Mem.head _)))) | exact List.Mem.tail _ (List.Mem.tail _ (List.Mem.tail _ (List.Mem.tail _ (List.Mem.tail _ (List.Mem.head _)))))) rfl ?_
        first
          | refine sl_len rfl rfl rfl ⟨_, u_70⟩ ?_
          | refine sl_len_sl rfl rfl rfl ⟨_, u_70⟩ ?_
        refine sl_bin rfl rfl rfl rfl rfl ?_
        refine sl_nil ?_
        refine sw_cond rfl (fun hj => ?_) (fun hj => ?_)
        · have hj1 : j < s.mod.length := by have := of_decide_eq_true hj; rw [List.length_map] at this; omega
          refine sw_skip ?_
          refine sw_seq ?_
          refine sw_block ?_
          refine sw_seq ?_
          refine sl_region ?_
          first
            | refine sl_fieldAddr_ptr rfl rfl rfl fo_72_3 ?_
            | refine sl_fieldAddr_rp rfl rfl rfl fo_72_3 ?_
            | refine sl_fieldAddr_ref rfl rfl rfl fo_72_3 ?_
          first
            | refine sl_load_rp1 rfl rfl rfl ag_70 rfl ?_
            | refine sl_load_blk1 rfl rfl rfl ag_70 (by first | exact List.Mem.head _ | exact List.Mem.tail _ (List.Mem.head _) | exact List.Mem.tail _ (List.Mem.tail _ (List.Mem.head _)) | exact List.Mem.tail _ (List.Mem.tail _ (List.Mem.tail _ (List.Mem.head _))) | exact List.Mem.tail _ (List.Mem.tail _ (List.Mem.tail _ (List.Mem.tail _ (List.Mem.head _)))) | exact List.Mem.tail _ (List.Mem.tail _ (List.Mem.tail _ (List.Mem.tail _ (List.Mem.tail _ (List.Mem.head _)))))) rfl ?_
          refine sl_mv rfl rfl rfl ?_
          refine sl_index_sl (j) rfl rfl rfl rfl u_70 sz_127 (by rw [List.length_map]; exact hj1) ?_
          first
            | refine sl_fieldAddr_ptr rfl rfl rfl fo_127_1 ?_
            | refine sl_fieldAddr_rp rfl rfl rfl fo_127_1 ?_
            | refine sl_fieldAddr_ref rfl rfl rfl fo_127_1 ?_
          first
            | refine sl_fieldAddr_ptr rfl rfl rfl fo_69_0 ?_
            | refine sl_fieldAddr_rp rfl rfl rfl fo_69_0 ?_
            | refine sl_fieldAddr_ref rfl rfl rfl fo_69_0 ?_
          refine sl_load_row1 (j) 1 rfl rfl rfl ag_4 (by first | exact List.Mem.head _ | exact List.Mem.tail _ (List.Mem.head _) | exact List.Mem.tail _ (List.Mem.tail _ (List.Mem.head _)) | exact List.Mem.tail _ (List.Mem.tail _ (List.Mem.tail _ (List.Mem.head _))) | exact List.Mem.tail _ (List.Mem.tail _ (List.Mem.tail _ (List.Mem.tail _ (List.Mem.head _)))) | exact List.Mem.tail _ (List.Mem.tail _ (List.Mem.tail _ (List.Mem.tail _ (List.Mem.tail _ (List.Mem.head _)))))) (rowsOk_map (fun _ => rfl)) (rows_map_get (mix_get normM hj1)) rfl ?_
          refine sl_not rfl rfl rfl ?_
          refine sl_nil ?_
          refine sw_cond rfl (fun hb => ?_) (fun hb => ?_)
          · have hb : s.mod[j].v.some = false := by simpa using hb
            refine sl_region ?_
            first
              | refine sl_fieldAddr_ptr rfl rfl rfl fo_72_3 ?_
              | refine sl_fieldAddr_rp rfl rfl rfl fo_72_3 ?_
              | refine sl_fieldAddr_ref rfl rfl rfl fo_72_3 ?_
            first
              | refine sl_load_rp1 rfl rfl rfl ag_70 rfl ?_
              | refine sl_load_blk1 rfl rfl rfl ag_70 (by first | exact List.Mem.head _ | exact List.Mem.tail _ (List.Mem.head _) | exact List.Mem.tail _ (List.Mem.tail _ (List.Mem.head _)) | exact List.Mem.tail _ (List.Mem.tail _ (List.Mem.tail _ (List.Mem.head _))) | exact List.Mem.tail _ (List.Mem.tail _ (List.Mem.tail _ (List.Mem.tail _ (List.Mem.head _)))) | exact List.Mem.tail _ (List.Mem.tail _ (List.Mem.tail _ (List.Mem.tail _ (List.Mem.tail _ (List.Mem.head _)))))) rfl ?_
            refine sl_mv rfl rfl rfl ?_
            refine sl_bd rfl rfl .nil bi_69 zd_69 rfl ?_
            refine sl_index_sl (j) rfl rfl rfl rfl u_70 sz_127 (by rw [List.length_map]; exact hj1) ?_
            first
              | refine sl_fieldAddr_ptr rfl rfl rfl fo_127_1 ?_
              | refine sl_fieldAddr_rp rfl rfl rfl fo_127_1 ?_
              | refine sl_fieldAddr_ref rfl rfl rfl fo_127_1 ?_
            first
              | refine sl_store_row (j) 1 rfl rfl rfl rfl sz_69 rfl rfl rfl (rowsOk_map (fun _ => rfl)) (rows_map_get (mix_get normM hj1)) (Nat.le_of_ble_eq_true rfl) ((rows_map_set (a := normM s.mod[j]) (by unfold normM; rw [normV_f hb]; rfl)).trans (by rw [mix_set normM hj1])) ?_
              | (refine sl_f1 ?_; refine sl_store_row (j) 1 rfl rfl rfl rfl sz_69 rfl rfl rfl (rowsOk_map (fun _ => rfl)) (rows_map_get (mix_get normM hj1)) (Nat.le_of_ble_eq_true rfl) ((rows_map_set (a := normM s.mod[j]) (by unfold normM; rw [normV_f hb]; rfl)).trans (by rw [mix_set normM hj1])) ?_)
              | (refine sl_f2 ?_; refine sl_store_row (j) 1 rfl rfl rfl rfl sz_69 rfl rfl rfl (rowsOk_map (fun _ => rfl)) (rows_map_get (mix_get normM hj1)) (Nat.le_of_ble_eq_true rfl) ((rows_map_set (a := normM s.mod[j]) (by unfold normM; rw [normV_f hb]; rfl)).trans (by rw [mix_set normM hj1])) ?_)
              | (refine sl_f3 ?_; refine sl_store_row (j) 1 rfl rfl rfl rfl sz_69 rfl rfl rfl (rowsOk_map (fun _ => rfl)) (rows_map_get (mix_get normM hj1)) (Nat.le_of_ble_eq_true rfl) ((rows_map_set (a := normM s.mod[j]) (by unfold normM; rw [normV_f hb]; rfl)).trans (by rw [mix_set normM hj1])) ?_)
              | (refine sl_f4 ?_; refine sl_store_row (j) 1 rfl rfl rfl rfl sz_69 rfl rfl rfl (rowsOk_map (fun _ => rfl)) (rows_map_get (mix_get normM hj1)) (Nat.le_of_ble_eq_true rfl) ((rows_map_set (a := normM s.mod[j]) (by unfold normM; rw [normV_f hb]; rfl)).trans (by rw [mix_set normM hj1])) ?_)
              | (refine sl_f5 ?_; refine sl_store_row (j) 1 rfl rfl rfl rfl sz_69 rfl rfl rfl (rowsOk_map (fun _ => rfl)) (rows_map_get (mix_get normM hj1)) (Nat.le_of_ble_eq_true rfl) ((rows_map_set (a := normM s.mod[j]) (by unfold normM; rw [normV_f hb]; rfl)).trans (by rw [mix_set normM hj1])) ?_)
              | (refine sl_f6 ?_; refine sl_store_row (j) 1 rfl rfl rfl rfl sz_69 rfl rfl rfl (rowsOk_map (fun _ => rfl)) (rows_map_get (mix_get normM hj1)) (Nat.le_of_ble_eq_true rfl) ((rows_map_set (a := normM s.mod[j]) (by unfold normM; rw [normV_f hb]; rfl)).trans (by rw [mix_set normM hj1])) ?_)
            refine sl_nil ?_
            refine sl_region ?_
            refine sl_mv rfl rfl rfl ?_
            first
              | refine sl_inc rfl rfl rfl rfl (by omega) ?_
              | refine sl_add rfl rfl rfl rfl (by constructor <;> omega) ?_
              | refine sl_bin rfl rfl rfl rfl rfl ?_
            refine sl_as rfl rfl rfl ?_
            refine sl_nil ?_
            refine ⟨_, by omega, _, _, ?_, ?_, j + 1, rfl, rfl, rfl, rfl, by omega⟩
            · refine ⟨rfl, ?_⟩; repeat (first | exact WkL.nil | refine WkL.cons (Weak.refl _) ?_ | refine WkL.cons (Weak.toV rfl) ?_ | refine WkL.cons (Weak.ref _) ?_ | refine WkL.cons (Weak.rp_agg _) ?_)
            · repeat (first | exact Sub.refl _ | exact Sub.none _ | refine Sub.p0 ?_ | refine Sub.p1 ?_ | refine Sub.p2 ?_ | refine Sub.p3 ?_ | refine Sub.p4 ?_ | refine Sub.p5 ?_ | refine Sub.p6 ?_ | refine Sub.drop ?_)
          · have hb : s.mod[j].v.some = true := by simpa using hb
            rw [mix_same normM hj1 (normM_t hb)]
            refine sw_skip ?_
            refine sl_region ?_
            refine sl_mv rfl rfl rfl ?_
            first
              | refine sl_inc rfl rfl rfl rfl (by omega) ?_
              | refine sl_add rfl rfl rfl rfl (by constructor <;> omega) ?_
              | refine sl_bin rfl rfl rfl rfl rfl ?_
            refine sl_as rfl rfl rfl ?_
            refine sl_nil ?_
            refine ⟨_, by omega, _, _, ?_, ?_, j + 1, rfl, rfl, rfl, rfl, by omega⟩
            · refine ⟨rfl, ?_⟩; repeat (first | exact WkL.nil | refine WkL.cons (Weak.refl _) ?_ | refine WkL.cons (Weak.toV rfl) ?_ | refine WkL.cons (Weak.ref _) ?_ | refine WkL.cons (Weak.rp_agg _) ?_)
            · repeat (first | exact Sub.refl _ | exact Sub.none _ | refine Sub.p0 ?_ | refine Sub.p1 ?_ | refine Sub.p2 ?_ | refine Sub.p3 ?_ | refine Sub.p4 ?_ | refine Sub.p5 ?_ | refine Sub.p6 ?_ | refine Sub.drop ?_)
        · have hj1 : j = s.mod.length := by have := of_decide_eq_false hj; rw [List.length_map] at this; omega
          refine sw_exit ?_
          refine sw_seq ?_
          refine sw_less (σ' := .blk b1 [.val (.list (s.alarms.map almV)), .val (.bool s.ends), .val (.bool r.some), .val (.int .i64 r.lo), .val (.int .i64 r.hi), .sl b12 0 (s.mod.map nmdV).length c12] :: .blk b12 (rowsD (((mix normM s.mod j).map nmdV).map rowOf) z12) :: .blk b2 zeroS :: σ) (by repeat (first | exact Sub.refl _ | exact Sub.none _ | refine Sub.p0 ?_ | refine Sub.p1 ?_ | refine Sub.p2 ?_ | refine Sub.p3 ?_ | refine Sub.p4 ?_ | refine Sub.p5 ?_ | refine Sub.p6 ?_ | refine Sub.drop ?_)) ?_
          refine sw_freeze_cell (i := 5) (sz := 4) rfl (by rw [List.length_map, List.length_map, mix_len]) hc12 (fun y hy => by obtain ⟨m, _, rfl⟩ := List.mem_map.mp hy; rfl) ?_
          rw [mix_all normM s.mod (Nat.le_of_eq hj1.symm)]
          refine sl_region ?_
          first
            | refine sl_load_rpn rfl rfl rfl ag_72 sz_72 (Nat.le_of_ble_eq_true rfl) ?_
            | refine sl_load_blkn rfl rfl rfl ag_72 sz_72 (by first | exact List.Mem.head _ | exact List.Mem.tail _ (List.Mem.head _) | exact List.Mem.tail _ (List.Mem.tail _ (List.Mem.head _)) | exact List.Mem.tail _ (List.Mem.tail _ (List.Mem.tail _ (List.Mem.head _))) | exact List.Mem.tail _ (List.Mem.tail _ (List.Mem.tail _ (List.Mem.tail _ (List.Mem.head _)))) | exact List.Mem.tail _ (List.Mem.tail _ (List.Mem.tail _ (List.Mem.tail _ (List.Mem.tail _ (List.Mem.head _)))))) (Nat.le_of_ble_eq_true rfl) ?_
            | refine sl_load_ref rfl rfl rfl ag_72 sz_72 (Nat.le_of_ble_eq_true rfl) ?_
          first
            | refine sl_st rfl rfl rfl rfl sz_72 rfl rfl rfl (Nat.le_of_ble_eq_true rfl) ?_
            | (refine sl_f1 ?_; refine sl_st rfl rfl rfl rfl sz_72 rfl rfl rfl (Nat.le_of_ble_eq_true rfl) ?_)
            | (refine sl_f2 ?_; refine sl_st rfl rfl rfl rfl sz_72 rfl rfl rfl (Nat.le_of_ble_eq_true rfl) ?_)
            | (refine sl_f3 ?_; refine sl_st rfl rfl rfl rfl sz_72 rfl rfl rfl (Nat.le_of_ble_eq_true rfl) ?_)
            | (refine sl_f4 ?_; refine sl_st rfl rfl rfl rfl sz_72 rfl rfl rfl (Nat.le_of_ble_eq_true rfl) ?_)
            | (refine sl_f5 ?_; refine sl_st rfl rfl rfl rfl sz_72 rfl rfl rfl (Nat.le_of_ble_eq_true rfl) ?_)
            | (refine sl_f6 ?_; refine sl_st rfl rfl rfl rfl sz_72 rfl rfl rfl (Nat.le_of_ble_eq_true rfl) ?_)
          refine sl_nil ?_
          refine sw_ret ⟨rfl, _, _, ResD.weak (res_celln rfl rfl ag_72 sz_72 (by first | exact List.Mem.head _ | exact List.Mem.tail _ (List.Mem.head _) | exact List.Mem.tail _ (List.Mem.tail _ (List.Mem.head _)) | exact List.Mem.tail _ (List.Mem.tail _ (List.Mem.tail _ (List.Mem.head _))) | exact List.Mem.tail _ (List.Mem.tail _ (List.Mem.tail _ (List.Mem.tail _ (List.Mem.head _)))) | exact List.Mem.tail _ (List.Mem.tail _ (List.Mem.tail _ (List.Mem.tail _ (List.Mem.tail _ (List.Mem.head _)))))) (Nat.le_of_ble_eq_true rfl)) ((Weak.toV rfl) ), ?_, ⟨by unfold normS; rw [← hr]; rfl, rfl⟩⟩
          repeat (first | exact Sub.refl _ | exact Sub.none _ | refine Sub.p0 ?_ | refine Sub.p1 ?_ | refine Sub.p2 ?_ | refine Sub.p3 ?_ | refine Sub.p4 ?_ | refine Sub.p5 ?_ | refine Sub.p6 ?_ | refine Sub.drop ?_)

end Go.Proofs.Ytioechdfghglhaa
