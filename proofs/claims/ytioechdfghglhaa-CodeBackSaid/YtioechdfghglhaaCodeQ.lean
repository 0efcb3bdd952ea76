/- Walks: printed by a program of this session out of its script CodeQ. -/
import Derived.Test.YtioechdfghglhaaSlT
import Derived.Test.YtioechdfghglhaaP10
import Derived.Test.YtioechdfghglhaaCodeP
namespace Go.Proofs.Ytioechdfghglhaa
set_option linter.unusedVariables false
set_option linter.unusedSimpArgs false
set_option maxRecDepth 4000
set_option maxHeartbeats 4000000
open Go Go.RowKit SL


/-- summary reads a summary. -/
theorem rsumm_ok (q : Nat) (l : List UInt8) (σ : List Chunk) (hl : l.length ≤ 100000000) :
    FSpecP Try.prog 85 [.ptr q 0] (rd q l false :: σ) (fun d σ' => ∃ v r, decSumm l = some (v, r) ∧ r.length ≤ l.length ∧ d = .val (smyV v) ∧ σ' = rd q r false :: σ)
      (fun ch σ' => decSumm l = none ∧ ch = stop ∧ ∃ r, σ' = rd q r false :: σ) := by
  refine spec_of_sw Try.func85 rfl ?_
  refine sw_seq ?_
  refine sl_region ?_
  refine sl_alloc rfl rfl zd_72 (fun b2 => ?_)
  refine sl_nil ?_
  refine sw_seq ?_
  refine sl_region ?_
  refine sl_alloc rfl rfl zd_72 (fun b3 => ?_)
  refine sl_nil ?_
  refine sw_seq ?_
  refine sw_seq ?_
  refine sl_region ?_
  refine sl_mv rfl rfl rfl ?_
  refine sl_callf rfl rfl cal_100 (rcount_ok q l (.blk b3 [.fix [], .val (.bool false), .val (.bool false), .val (.int .i64 0), .val (.int .i64 0), .fix []] :: .blk b2 [.fix [], .val (.bool false), .val (.bool false), .val (.int .i64 0), .val (.int .i64 0), .fix []] :: σ) hl) ?_ ?_ ?_ (fun _ _ h => by obtain ⟨h1, rfl, r, rfl⟩ := h; exact ⟨rfl, _, (by repeat (first | exact Sub.refl _ | exact Sub.none _ | refine Sub.p0 ?_ | refine Sub.p1 ?_ | refine Sub.p2 ?_ | refine Sub.p3 ?_ | refine Sub.p4 ?_ | refine Sub.p5 ?_ | refine Sub.p6 ?_ | refine Sub.drop ?_)), sum_bad_al (al_bad h1), rfl, _, rfl⟩)
  · repeat (first | exact Weaks.nil | refine Weaks.cons (Weak.junk _) ?_ | refine Weaks.cons (Weak.refl _) ?_ | refine Weaks.cons (Weak.toV rfl) ?_ | refine Weaks.cons (Weak.ref _) ?_ | refine Weaks.cons (Weak.rp_agg _) ?_)
  · repeat (first | exact Sub.refl _ | exact Sub.none _ | refine Sub.p0 ?_ | refine Sub.p1 ?_ | refine Sub.p2 ?_ | refine Sub.p3 ?_ | refine Sub.p4 ?_ | refine Sub.p5 ?_ | refine Sub.p6 ?_ | refine Sub.drop ?_)
  rintro _ _ ⟨n, r, hc, rfl, rfl⟩
  have hr : r.length ≤ l.length := (decC_inv hc).2.2
  have hn : n ≤ r.length := (decC_inv hc).2.1
  refine sl_mv rfl rfl rfl ?_
  refine sl_nil ?_
  refine sw_block ?_
  refine sw_less (σ' := .blk b3 [.fix [], .val (.bool false), .val (.bool false), .val (.int .i64 0), .val (.int .i64 0), .fix []] :: rd q r false :: .blk b2 [.fix [], .val (.bool false), .val (.bool false), .val (.int .i64 0), .val (.int .i64 0), .fix []] :: σ) (by repeat (first | exact Sub.refl _ | exact Sub.none _ | refine Sub.p0 ?_ | refine Sub.p1 ?_ | refine Sub.p2 ?_ | refine Sub.p3 ?_ | refine Sub.p4 ?_ | refine Sub.p5 ?_ | refine Sub.p6 ?_ | refine Sub.drop ?_)) ?_
  refine sw_own_blk (i := 0) (sz := 2) rfl (fun e0 => ?_)
  refine sw_loopw (fun nX sX δX σX => ∃ (j : Nat) (v : Value) (al : List Alm) (r2 : List UInt8), (n - j) = nX ∧ sX = ⟨45, (.cons 0 (.ptr q 0) (.cons 2 (.ptr b2 0) (.cons 3 (.ptr b3 0) (.cons 7 (.val (.int .i64 (n : Int))) (.cons 8 (.val (.int .i64 (j : Int))) .nil)))))⟩ ∧ δX = [] ∧ σX = rd q r2 false :: .blk b3 [.own v (al.map almV), .val (.bool false), .val (.bool false), .val (.int .i64 0), .val (.int .i64 0), .fix []] :: .spare v 2 :: .blk b2 [.fix [], .val (.bool false), .val (.bool false), .val (.int .i64 0), .val (.int .i64 0), .fix []] :: σ ∧ j ≤ n ∧ Out (decMany decA j) (some r) al (some r2) ∧ r2.length ≤ l.length ∧ al.length ≤ j) ?_ ?_
  · refine ⟨_, _, _, ?_, ?_, 0, e0, [], r, rfl, rfl, rfl, rfl, Nat.zero_le _, many_zero r, hr, Nat.le_refl _⟩
    · refine ⟨rfl, ?_⟩; repeat (first | exact WkL.nil | refine WkL.cons (Weak.refl _) ?_ | refine WkL.cons (Weak.toV rfl) ?_ | refine WkL.cons (Weak.ref _) ?_ | refine WkL.cons (Weak.rp_agg _) ?_)
    · repeat (first | exact Sub.refl _ | exact Sub.none _ | refine Sub.p0 ?_ | refine Sub.p1 ?_ | refine Sub.p2 ?_ | refine Sub.p3 ?_ | refine Sub.p4 ?_ | refine Sub.p5 ?_ | refine Sub.p6 ?_ | refine Sub.drop ?_)
  · rintro nX sX δX σX ⟨j, v, al, r2, rfl, rfl, rfl, rfl, hj0, hout, hr2, hal⟩
    refine sw_seq ?_
    refine sl_region ?_
    refine sl_bin rfl rfl rfl rfl rfl ?_
    refine sl_nil ?_
    refine sw_seq ?_
    refine sw_cond rfl (fun hj => ?_) (fun hj => ?_)
    · have hj1 : j < n := by have := of_decide_eq_true hj; omega
      refine sw_skip ?_
      refine sw_seq ?_
      refine sw_block ?_
      refine sw_seq ?_
      refine sl_region ?_
      refine sl_mv rfl rfl rfl ?_
      refine sl_callf rfl rfl cal_101 (rsmall_ok q r2 (.blk b3 [.own v (al.map almV), .val (.bool false), .val (.bool false), .val (.int .i64 0), .val (.int .i64 0), .fix []] :: .spare v 2 :: .blk b2 [.fix [], .val (.bool false), .val (.bool false), .val (.int .i64 0), .val (.int .i64 0), .fix []] :: σ)) ?_ ?_ ?_ (fun _ _ h => by obtain ⟨h1, rfl, r, rfl⟩ := h; exact ⟨rfl, _, (by repeat (first | exact Sub.refl _ | exact Sub.none _ | refine Sub.p0 ?_ | refine Sub.p1 ?_ | refine Sub.p2 ?_ | refine Sub.p3 ?_ | refine Sub.p4 ?_ | refine Sub.p5 ?_ | refine Sub.p6 ?_ | refine Sub.drop ?_)), sum_bad_al (al_good hc (many_bad hout (decA_bad1 h1) hj1)), rfl, _, rfl⟩)
      · repeat (first | exact Weaks.nil | refine Weaks.cons (Weak.junk _) ?_ | refine Weaks.cons (Weak.refl _) ?_ | refine Weaks.cons (Weak.toV rfl) ?_ | refine Weaks.cons (Weak.ref _) ?_ | refine Weaks.cons (Weak.rp_agg _) ?_)
      · repeat (first | exact Sub.refl _ | exact Sub.none _ | refine Sub.p0 ?_ | refine Sub.p1 ?_ | refine Sub.p2 ?_ | refine Sub.p3 ?_ | refine Sub.p4 ?_ | refine Sub.p5 ?_ | refine Sub.p6 ?_ | refine Sub.drop ?_)
      rintro _ _ ⟨a, r3, h3, rfl, rfl⟩
      refine sl_as rfl rfl rfl ?_
      refine sl_nil ?_
      refine sa_start [] mixed ?_
      first
        | refine sa_take 0 rfl rfl (by kernel_rfl) (by kernel_rfl) (by kernel_rfl) exacts_nil (pu_fieldAddr_ptr rfl rfl fo_72_0) ?_
        | refine sa_take 0 rfl rfl (by kernel_rfl) (by kernel_rfl) (by kernel_rfl) exacts_nil (pu_fieldAddr_rp rfl rfl fo_72_0) ?_
        | refine sa_take 0 rfl rfl (by kernel_rfl) (by kernel_rfl) (by kernel_rfl) exacts_nil (pu_fieldAddr_ref rfl rfl fo_72_0) ?_
      refine sa_take 2 rfl rfl (by kernel_rfl) (by kernel_rfl) (by kernel_rfl) exacts_nil (pu_mv rfl rfl) ?_
      refine sa_take 3 rfl rfl (by kernel_rfl) (by kernel_rfl) (by kernel_rfl) exacts_nil (pu_mv rfl rfl) ?_
      refine sa_two 1 4 (by kernel_rfl) rfl rfl ?_ ?_
      · refine sl_load_blk1 rfl rfl rfl ag_67 (by first | exact List.Mem.head _ | exact List.Mem.tail _ (List.Mem.head _) | exact List.Mem.tail _ (List.Mem.tail _ (List.Mem.head _)) | exact List.Mem.tail _ (List.Mem.tail _ (List.Mem.tail _ (List.Mem.head _))) | exact List.Mem.tail _ (List.Mem.tail _ (List.Mem.tail _ (List.Mem.tail _ (List.Mem.head _)))) | exact List.Mem.tail _ (List.Mem.tail _ (List.Mem.tail _ (List.Mem.tail _ (List.Mem.tail _ (List.Mem.head _)))))) rfl ?_
        refine sl_nil ⟨exacts_nil, ?_⟩
        refine sa_one 4 (by kernel_rfl) rfl ?_
        refine sl_callf rfl rfl cal_101 (rsmall_ok q r3 (.blk b3 [.own v (al.map almV), .val (.bool false), .val (.bool false), .val (.int .i64 0), .val (.int .i64 0), .fix []] :: .spare v 2 :: .blk b2 [.fix [], .val (.bool false), .val (.bool false), .val (.int .i64 0), .val (.int .i64 0), .fix []] :: σ)) ?_ ?_ ?_ (fun _ _ h => by obtain ⟨h1, rfl, r, rfl⟩ := h; exact ⟨rfl, _, (by repeat (first | exact Sub.refl _ | exact Sub.none _ | refine Sub.p0 ?_ | refine Sub.p1 ?_ | refine Sub.p2 ?_ | refine Sub.p3 ?_ | refine Sub.p4 ?_ | refine Sub.p5 ?_ | refine Sub.p6 ?_ | refine Sub.drop ?_)), sum_bad_al (al_good hc (many_bad hout (decA_bad2 h3 h1) hj1)), rfl, _, rfl⟩)
        · repeat (first | exact Weaks.nil | refine Weaks.cons (Weak.junk _) ?_ | refine Weaks.cons (Weak.refl _) ?_ | refine Weaks.cons (Weak.toV rfl) ?_ | refine Weaks.cons (Weak.ref _) ?_ | refine Weaks.cons (Weak.rp_agg _) ?_)
        · repeat (first | exact Sub.refl _ | exact Sub.none _ | refine Sub.p0 ?_ | refine Sub.p1 ?_ | refine Sub.p2 ?_ | refine Sub.p3 ?_ | refine Sub.p4 ?_ | refine Sub.p5 ?_ | refine Sub.p6 ?_ | refine Sub.drop ?_)
        rintro _ _ ⟨k, r4, h4, rfl, rfl⟩
        refine sl_nil ⟨exacts_nil, ?_⟩
        refine sa_take 5 rfl rfl (by kernel_rfl) (by kernel_rfl) (by kernel_rfl) exacts_nil (pu_bd rfl (.cons rfl (.cons rfl .nil)) bi_86 zd_86 rfl) ?_
        refine sa_one 6 (by kernel_rfl) rfl ?_
        refine sl_bsn ([almV ⟨a, k⟩]) rfl rfl (.cons rfl .nil) u_67 sz_86 zs_86 (by decide) rfl rfl rfl (by repeat (first | exact sized_nil | exact sized_map (fun _ => ⟨rfl, rfl⟩) | refine sized_cons rfl rfl ?_ | refine sized_append ?_ ?_ | assumption)) ?_
        refine sl_nil ⟨exacts_nil, ?_⟩
        refine sa_one 7 (by kernel_rfl) rfl ?_
        first
          | refine sl_app rfl rfl rfl rfl u_67 ⟨_, u_67, rfl⟩ el_86 (by repeat (first | exact sized_nil | exact sized_map (fun _ => ⟨rfl, rfl⟩) | refine sized_cons rfl rfl ?_ | refine sized_append ?_ ?_ | assumption)) (by repeat (first | exact sized_nil | exact sized_map (fun _ => ⟨rfl, rfl⟩) | refine sized_cons rfl rfl ?_ | refine sized_append ?_ ?_ | assumption)) (by simp only [List.length_map, List.length_cons, List.length_nil]; omega) ((by rw [List.map_append]; rfl : _ = (al ++ [Alm.mk a k]).map almV)) (fun v19 => ?_)
          | (refine sl_f1 ?_; refine sl_app rfl rfl rfl rfl u_67 ⟨_, u_67, rfl⟩ el_86 (by repeat (first | exact sized_nil | exact sized_map (fun _ => ⟨rfl, rfl⟩) | refine sized_cons rfl rfl ?_ | refine sized_append ?_ ?_ | assumption)) (by repeat (first | exact sized_nil | exact sized_map (fun _ => ⟨rfl, rfl⟩) | refine sized_cons rfl rfl ?_ | refine sized_append ?_ ?_ | assumption)) (by simp only [List.length_map, List.length_cons, List.length_nil]; omega) ((by rw [List.map_append]; rfl : _ = (al ++ [Alm.mk a k]).map almV)) (fun v19 => ?_))
          | (refine sl_f2 ?_; refine sl_app rfl rfl rfl rfl u_67 ⟨_, u_67, rfl⟩ el_86 (by repeat (first | exact sized_nil | exact sized_map (fun _ => ⟨rfl, rfl⟩) | refine sized_cons rfl rfl ?_ | refine sized_append ?_ ?_ | assumption)) (by repeat (first | exact sized_nil | exact sized_map (fun _ => ⟨rfl, rfl⟩) | refine sized_cons rfl rfl ?_ | refine sized_append ?_ ?_ | assumption)) (by simp only [List.length_map, List.length_cons, List.length_nil]; omega) ((by rw [List.map_append]; rfl : _ = (al ++ [Alm.mk a k]).map almV)) (fun v19 => ?_))
          | (refine sl_f3 ?_; refine sl_app rfl rfl rfl rfl u_67 ⟨_, u_67, rfl⟩ el_86 (by repeat (first | exact sized_nil | exact sized_map (fun _ => ⟨rfl, rfl⟩) | refine sized_cons rfl rfl ?_ | refine sized_append ?_ ?_ | assumption)) (by repeat (first | exact sized_nil | exact sized_map (fun _ => ⟨rfl, rfl⟩) | refine sized_cons rfl rfl ?_ | refine sized_append ?_ ?_ | assumption)) (by simp only [List.length_map, List.length_cons, List.length_nil]; omega) ((by rw [List.map_append]; rfl : _ = (al ++ [Alm.mk a k]).map almV)) (fun v19 => ?_))
          | (refine sl_f4 ?_; refine sl_app rfl rfl rfl rfl u_67 ⟨_, u_67, rfl⟩ el_86 (by repeat (first | exact sized_nil | exact sized_map (fun _ => ⟨rfl, rfl⟩) | refine sized_cons rfl rfl ?_ | refine sized_append ?_ ?_ | assumption)) (by repeat (first | exact sized_nil | exact sized_map (fun _ => ⟨rfl, rfl⟩) | refine sized_cons rfl rfl ?_ | refine sized_append ?_ ?_ | assumption)) (by simp only [List.length_map, List.length_cons, List.length_nil]; omega) ((by rw [List.map_append]; rfl : _ = (al ++ [Alm.mk a k]).map almV)) (fun v19 => ?_))
          | (refine sl_f5 ?_; refine sl_app rfl rfl rfl rfl u_67 ⟨_, u_67, rfl⟩ el_86 (by repeat (first | exact sized_nil | exact sized_map (fun _ => ⟨rfl, rfl⟩) | refine sized_cons rfl rfl ?_ | refine sized_append ?_ ?_ | assumption)) (by repeat (first | exact sized_nil | exact sized_map (fun _ => ⟨rfl, rfl⟩) | refine sized_cons rfl rfl ?_ | refine sized_append ?_ ?_ | assumption)) (by simp only [List.length_map, List.length_cons, List.length_nil]; omega) ((by rw [List.map_append]; rfl : _ = (al ++ [Alm.mk a k]).map almV)) (fun v19 => ?_))
          | (refine sl_f6 ?_; refine sl_app rfl rfl rfl rfl u_67 ⟨_, u_67, rfl⟩ el_86 (by repeat (first | exact sized_nil | exact sized_map (fun _ => ⟨rfl, rfl⟩) | refine sized_cons rfl rfl ?_ | refine sized_append ?_ ?_ | assumption)) (by repeat (first | exact sized_nil | exact sized_map (fun _ => ⟨rfl, rfl⟩) | refine sized_cons rfl rfl ?_ | refine sized_append ?_ ?_ | assumption)) (by simp only [List.length_map, List.length_cons, List.length_nil]; omega) ((by rw [List.map_append]; rfl : _ = (al ++ [Alm.mk a k]).map almV)) (fun v19 => ?_))
        refine sl_nil ⟨exacts_nil, ?_⟩
        first
          | refine sa_take 8 rfl rfl (by kernel_rfl) (by kernel_rfl) (by kernel_rfl) exacts_nil (pu_fieldAddr_ptr rfl rfl fo_72_0) ?_
          | refine sa_take 8 rfl rfl (by kernel_rfl) (by kernel_rfl) (by kernel_rfl) exacts_nil (pu_fieldAddr_rp rfl rfl fo_72_0) ?_
          | refine sa_take 8 rfl rfl (by kernel_rfl) (by kernel_rfl) (by kernel_rfl) exacts_nil (pu_fieldAddr_ref rfl rfl fo_72_0) ?_
        refine sa_one 9 (by kernel_rfl) rfl ?_
        first
          | refine sl_st rfl rfl rfl rfl sz_67 rfl rfl rfl (Nat.le_of_ble_eq_true rfl) ?_
          | (refine sl_f1 ?_; refine sl_st rfl rfl rfl rfl sz_67 rfl rfl rfl (Nat.le_of_ble_eq_true rfl) ?_)
          | (refine sl_f2 ?_; refine sl_st rfl rfl rfl rfl sz_67 rfl rfl rfl (Nat.le_of_ble_eq_true rfl) ?_)
          | (refine sl_f3 ?_; refine sl_st rfl rfl rfl rfl sz_67 rfl rfl rfl (Nat.le_of_ble_eq_true rfl) ?_)
          | (refine sl_f4 ?_; refine sl_st rfl rfl rfl rfl sz_67 rfl rfl rfl (Nat.le_of_ble_eq_true rfl) ?_)
          | (refine sl_f5 ?_; refine sl_st rfl rfl rfl rfl sz_67 rfl rfl rfl (Nat.le_of_ble_eq_true rfl) ?_)
          | (refine sl_f6 ?_; refine sl_st rfl rfl rfl rfl sz_67 rfl rfl rfl (Nat.le_of_ble_eq_true rfl) ?_)
        refine sl_nil ⟨exacts_nil, ?_⟩
        refine sa_done (by kernel_rfl) ?_
        refine sl_region ?_
        first
          | refine sl_inc rfl rfl rfl rfl (by omega) ?_
          | refine sl_add rfl rfl rfl rfl (by constructor <;> omega) ?_
          | refine sl_bin rfl rfl rfl rfl rfl ?_
        refine sl_mv rfl rfl rfl ?_
        refine sl_nil ?_
        refine ⟨_, by omega, _, _, ?_, ?_, j + 1, v19, _, r4, rfl, rfl, rfl, rfl, by omega, many_succ hout (out_alm (st := some r2) (st1 := some r3) (st2 := some r4) h3 h4), by have := (decS_len h3).1; have := (decS_len h4).1; omega, by rw [List.length_append]; simp; omega⟩
        · refine ⟨rfl, ?_⟩; repeat (first | exact WkL.nil | refine WkL.cons (Weak.refl _) ?_ | refine WkL.cons (Weak.toV rfl) ?_ | refine WkL.cons (Weak.ref _) ?_ | refine WkL.cons (Weak.rp_agg _) ?_)
        · repeat (first | exact Sub.refl _ | exact Sub.none _ | refine Sub.p0 ?_ | refine Sub.p1 ?_ | refine Sub.p2 ?_ | refine Sub.p3 ?_ | refine Sub.p4 ?_ | refine Sub.p5 ?_ | refine Sub.p6 ?_ | refine Sub.drop ?_)
      · refine sl_callf rfl rfl cal_101 (rsmall_ok q r3 (.blk b3 [.own v (al.map almV), .val (.bool false), .val (.bool false), .val (.int .i64 0), .val (.int .i64 0), .fix []] :: .spare v 2 :: .blk b2 [.fix [], .val (.bool false), .val (.bool false), .val (.int .i64 0), .val (.int .i64 0), .fix []] :: σ)) ?_ ?_ ?_ (fun _ _ h => by obtain ⟨h1, rfl, r, rfl⟩ := h; exact ⟨rfl, _, (by repeat (first | exact Sub.refl _ | exact Sub.none _ | refine Sub.p0 ?_ | refine Sub.p1 ?_ | refine Sub.p2 ?_ | refine Sub.p3 ?_ | refine Sub.p4 ?_ | refine Sub.p5 ?_ | refine Sub.p6 ?_ | refine Sub.drop ?_)), sum_bad_al (al_good hc (many_bad hout (decA_bad2 h3 h1) hj1)), rfl, _, rfl⟩)
        · repeat (first | exact Weaks.nil | refine Weaks.cons (Weak.junk _) ?_ | refine Weaks.cons (Weak.refl _) ?_ | refine Weaks.cons (Weak.toV rfl) ?_ | refine Weaks.cons (Weak.ref _) ?_ | refine Weaks.cons (Weak.rp_agg _) ?_)
        · repeat (first | exact Sub.refl _ | exact Sub.none _ | refine Sub.p0 ?_ | refine Sub.p1 ?_ | refine Sub.p2 ?_ | refine Sub.p3 ?_ | refine Sub.p4 ?_ | refine Sub.p5 ?_ | refine Sub.p6 ?_ | refine Sub.drop ?_)
        rintro _ _ ⟨k, r4, h4, rfl, rfl⟩
        refine sl_nil ⟨exacts_nil, ?_⟩
        refine sa_take 5 rfl rfl (by kernel_rfl) (by kernel_rfl) (by kernel_rfl) exacts_nil (pu_bd rfl (.cons rfl (.cons rfl .nil)) bi_86 zd_86 rfl) ?_
        refine sa_two 1 6 (by kernel_rfl) rfl rfl ?_ ?_
        · refine sl_load_blk1 rfl rfl rfl ag_67 (by first | exact List.Mem.head _ | exact List.Mem.tail _ (List.Mem.head _) | exact List.Mem.tail _ (List.Mem.tail _ (List.Mem.head _)) | exact List.Mem.tail _ (List.Mem.tail _ (List.Mem.tail _ (List.Mem.head _))) | exact List.Mem.tail _ (List.Mem.tail _ (List.Mem.tail _ (List.Mem.tail _ (List.Mem.head _)))) | exact List.Mem.tail _ (List.Mem.tail _ (List.Mem.tail _ (List.Mem.tail _ (List.Mem.tail _ (List.Mem.head _)))))) rfl ?_
          refine sl_nil ⟨exacts_nil, ?_⟩
          refine sa_one 6 (by kernel_rfl) rfl ?_
          refine sl_bsn ([almV ⟨a, k⟩]) rfl rfl (.cons rfl .nil) u_67 sz_86 zs_86 (by decide) rfl rfl rfl (by repeat (first | exact sized_nil | exact sized_map (fun _ => ⟨rfl, rfl⟩) | refine sized_cons rfl rfl ?_ | refine sized_append ?_ ?_ | assumption)) ?_
          refine sl_nil ⟨exacts_nil, ?_⟩
          refine sa_one 7 (by kernel_rfl) rfl ?_
          first
            | refine sl_app rfl rfl rfl rfl u_67 ⟨_, u_67, rfl⟩ el_86 (by repeat (first | exact sized_nil | exact sized_map (fun _ => ⟨rfl, rfl⟩) | refine sized_cons rfl rfl ?_ | refine sized_append ?_ ?_ | assumption)) (by repeat (first | exact sized_nil | exact sized_map (fun _ => ⟨rfl, rfl⟩) | refine sized_cons rfl rfl ?_ | refine sized_append ?_ ?_ | assumption)) (by simp only [List.length_map, List.length_cons, List.length_nil]; omega) ((by rw [List.map_append]; rfl : _ = (al ++ [Alm.mk a k]).map almV)) (fun v19 => ?_)
            | (refine sl_f1 ?_; refine sl_app rfl rfl rfl rfl u_67 ⟨_, u_67, rfl⟩ el_86 (by repeat (first | exact sized_nil | exact sized_map (fun _ => ⟨rfl, rfl⟩) | refine sized_cons rfl rfl ?_ | refine sized_append ?_ ?_ | assumption)) (by repeat (first | exact sized_nil | exact sized_map (fun _ => ⟨rfl, rfl⟩) | refine sized_cons rfl rfl ?_ | refine sized_append ?_ ?_ | assumption)) (by simp only [List.length_map, List.length_cons, List.length_nil]; omega) ((by rw [List.map_append]; rfl : _ = (al ++ [Alm.mk a k]).map almV)) (fun v19 => ?_))
            | (refine sl_f2 ?_; refine sl_app rfl rfl rfl rfl u_67 ⟨_, u_67, rfl⟩ el_86 (by repeat (first | exact sized_nil | exact sized_map (fun _ => ⟨rfl, rfl⟩) | refine sized_cons rfl rfl ?_ | refine sized_append ?_ ?_ | assumption)) (by repeat (first | exact sized_nil | exact sized_map (fun _ => ⟨rfl, rfl⟩) | refine sized_cons rfl rfl ?_ | refine sized_append ?_ ?_ | assumption)) (by simp only [List.length_map, List.length_cons, List.length_nil]; omega) ((by rw [List.map_append]; rfl : _ = (al ++ [Alm.mk a k]).map almV)) (fun v19 => ?_))
            | (refine sl_f3 ?_; refine sl_app rfl rfl rfl rfl u_67 ⟨_, u_67, rfl⟩ el_86 (by repeat (first | exact sized_nil | exact sized_map (fun _ => ⟨rfl, rfl⟩) | refine sized_cons rfl rfl ?_ | refine sized_append ?_ ?_ | assumption)) (by repeat (first | exact sized_nil | exact sized_map (fun _ => ⟨rfl, rfl⟩) | refine sized_cons rfl rfl ?_ | refine sized_append ?_ ?_ | assumption)) (by simp only [List.length_map, List.length_cons, List.length_nil]; omega) ((by rw [List.map_append]; rfl : _ = (al ++ [Alm.mk a k]).map almV)) (fun v19 => ?_))
            | (refine sl_f4 ?_; refine sl_app rfl rfl rfl rfl u_67 ⟨_, u_67, rfl⟩ el_86 (by repeat (first | exact sized_nil | exact sized_map (fun _ => ⟨rfl, rfl⟩) | refine sized_cons rfl rfl ?_ | refine sized_append ?_ ?_ | assumption)) (by repeat (first | exact sized_nil | exact sized_map (fun _ => ⟨rfl, rfl⟩) | refine sized_cons rfl rfl ?_ | refine sized_append ?_ ?_ | assumption)) (by simp only [List.length_map, List.length_cons, List.length_nil]; omega) ((by rw [List.map_append]; rfl : _ = (al ++ [Alm.mk a k]).map almV)) (fun v19 => ?_))
            | (refine sl_f5 ?_; refine sl_app rfl rfl rfl rfl u_67 ⟨_, u_67, rfl⟩ el_86 (by repeat (first | exact sized_nil | exact sized_map (fun _ => ⟨rfl, rfl⟩) | refine sized_cons rfl rfl ?_ | refine sized_append ?_ ?_ | assumption)) (by repeat (first | exact sized_nil | exact sized_map (fun _ => ⟨rfl, rfl⟩) | refine sized_cons rfl rfl ?_ | refine sized_append ?_ ?_ | assumption)) (by simp only [List.length_map, List.length_cons, List.length_nil]; omega) ((by rw [List.map_append]; rfl : _ = (al ++ [Alm.mk a k]).map almV)) (fun v19 => ?_))
            | (refine sl_f6 ?_; refine sl_app rfl rfl rfl rfl u_67 ⟨_, u_67, rfl⟩ el_86 (by repeat (first | exact sized_nil | exact sized_map (fun _ => ⟨rfl, rfl⟩) | refine sized_cons rfl rfl ?_ | refine sized_append ?_ ?_ | assumption)) (by repeat (first | exact sized_nil | exact sized_map (fun _ => ⟨rfl, rfl⟩) | refine sized_cons rfl rfl ?_ | refine sized_append ?_ ?_ | assumption)) (by simp only [List.length_map, List.length_cons, List.length_nil]; omega) ((by rw [List.map_append]; rfl : _ = (al ++ [Alm.mk a k]).map almV)) (fun v19 => ?_))
          refine sl_nil ⟨exacts_nil, ?_⟩
          first
            | refine sa_take 8 rfl rfl (by kernel_rfl) (by kernel_rfl) (by kernel_rfl) exacts_nil (pu_fieldAddr_ptr rfl rfl fo_72_0) ?_
            | refine sa_take 8 rfl rfl (by kernel_rfl) (by kernel_rfl) (by kernel_rfl) exacts_nil (pu_fieldAddr_rp rfl rfl fo_72_0) ?_
            | refine sa_take 8 rfl rfl (by kernel_rfl) (by kernel_rfl) (by kernel_rfl) exacts_nil (pu_fieldAddr_ref rfl rfl fo_72_0) ?_
          refine sa_one 9 (by kernel_rfl) rfl ?_
          first
            | refine sl_st rfl rfl rfl rfl sz_67 rfl rfl rfl (Nat.le_of_ble_eq_true rfl) ?_
            | (refine sl_f1 ?_; refine sl_st rfl rfl rfl rfl sz_67 rfl rfl rfl (Nat.le_of_ble_eq_true rfl) ?_)
            | (refine sl_f2 ?_; refine sl_st rfl rfl rfl rfl sz_67 rfl rfl rfl (Nat.le_of_ble_eq_true rfl) ?_)
            | (refine sl_f3 ?_; refine sl_st rfl rfl rfl rfl sz_67 rfl rfl rfl (Nat.le_of_ble_eq_true rfl) ?_)
            | (refine sl_f4 ?_; refine sl_st rfl rfl rfl rfl sz_67 rfl rfl rfl (Nat.le_of_ble_eq_true rfl) ?_)
            | (refine sl_f5 ?_; refine sl_st rfl rfl rfl rfl sz_67 rfl rfl rfl (Nat.le_of_ble_eq_true rfl) ?_)
            | (refine sl_f6 ?_; refine sl_st rfl rfl rfl rfl sz_67 rfl rfl rfl (Nat.le_of_ble_eq_true rfl) ?_)
          refine sl_nil ⟨exacts_nil, ?_⟩
          refine sa_done (by kernel_rfl) ?_
          refine sl_region ?_
          first
            | refine sl_inc rfl rfl rfl rfl (by omega) ?_
            | refine sl_add rfl rfl rfl rfl (by constructor <;> omega) ?_
            | refine sl_bin rfl rfl rfl rfl rfl ?_
          refine sl_mv rfl rfl rfl ?_
          refine sl_nil ?_
          refine ⟨_, by omega, _, _, ?_, ?_, j + 1, v19, _, r4, rfl, rfl, rfl, rfl, by omega, many_succ hout (out_alm (st := some r2) (st1 := some r3) (st2 := some r4) h3 h4), by have := (decS_len h3).1; have := (decS_len h4).1; omega, by rw [List.length_append]; simp; omega⟩
          · refine ⟨rfl, ?_⟩; repeat (first | exact WkL.nil | refine WkL.cons (Weak.refl _) ?_ | refine WkL.cons (Weak.toV rfl) ?_ | refine WkL.cons (Weak.ref _) ?_ | refine WkL.cons (Weak.rp_agg _) ?_)
          · repeat (first | exact Sub.refl _ | exact Sub.none _ | refine Sub.p0 ?_ | refine Sub.p1 ?_ | refine Sub.p2 ?_ | refine Sub.p3 ?_ | refine Sub.p4 ?_ | refine Sub.p5 ?_ | refine Sub.p6 ?_ | refine Sub.drop ?_)
        · refine sl_bsn ([almV ⟨a, k⟩]) rfl rfl (.cons rfl .nil) u_67 sz_86 zs_86 (by decide) rfl rfl rfl (by repeat (first | exact sized_nil | exact sized_map (fun _ => ⟨rfl, rfl⟩) | refine sized_cons rfl rfl ?_ | refine sized_append ?_ ?_ | assumption)) ?_
          refine sl_nil ⟨exacts_nil, ?_⟩
          refine sa_one 1 (by kernel_rfl) rfl ?_
          refine sl_load_blk1 rfl rfl rfl ag_67 (by first | exact List.Mem.head _ | exact List.Mem.tail _ (List.Mem.head _) | exact List.Mem.tail _ (List.Mem.tail _ (List.Mem.head _)) | exact List.Mem.tail _ (List.Mem.tail _ (List.Mem.tail _ (List.Mem.head _))) | exact List.Mem.tail _ (List.Mem.tail _ (List.Mem.tail _ (List.Mem.tail _ (List.Mem.head _)))) | exact List.Mem.tail _ (List.Mem.tail _ (List.Mem.tail _ (List.Mem.tail _ (List.Mem.tail _ (List.Mem.head _)))))) rfl ?_
          refine sl_nil ⟨exacts_nil, ?_⟩
          refine sa_one 7 (by kernel_rfl) rfl ?_
          first
            | refine sl_app rfl rfl rfl rfl u_67 ⟨_, u_67, rfl⟩ el_86 (by repeat (first | exact sized_nil | exact sized_map (fun _ => ⟨rfl, rfl⟩) | refine sized_cons rfl rfl ?_ | refine sized_append ?_ ?_ | assumption)) (by repeat (first | exact sized_nil | exact sized_map (fun _ => ⟨rfl, rfl⟩) | refine sized_cons rfl rfl ?_ | refine sized_append ?_ ?_ | assumption)) (by simp only [List.length_map, List.length_cons, List.length_nil]; omega) ((by rw [List.map_append]; rfl : _ = (al ++ [Alm.mk a k]).map almV)) (fun v19 => ?_)
            | (refine sl_f1 ?_; refine sl_app rfl rfl rfl rfl u_67 ⟨_, u_67, rfl⟩ el_86 (by repeat (first | exact sized_nil | exact sized_map (fun _ => ⟨rfl, rfl⟩) | refine sized_cons rfl rfl ?_ | refine sized_append ?_ ?_ | assumption)) (by repeat (first | exact sized_nil | exact sized_map (fun _ => ⟨rfl, rfl⟩) | refine sized_cons rfl rfl ?_ | refine sized_append ?_ ?_ | assumption)) (by simp only [List.length_map, List.length_cons, List.length_nil]; omega) ((by rw [List.map_append]; rfl : _ = (al ++ [Alm.mk a k]).map almV)) (fun v19 => ?_))
            | (refine sl_f2 ?_; refine sl_app rfl rfl rfl rfl u_67 ⟨_, u_67, rfl⟩ el_86 (by repeat (first | exact sized_nil | exact sized_map (fun _ => ⟨rfl, rfl⟩) | refine sized_cons rfl rfl ?_ | refine sized_append ?_ ?_ | assumption)) (by repeat (first | exact sized_nil | exact sized_map (fun _ => ⟨rfl, rfl⟩) | refine sized_cons rfl rfl ?_ | refine sized_append ?_ ?_ | assumption)) (by simp only [List.length_map, List.length_cons, List.length_nil]; omega) ((by rw [List.map_append]; rfl : _ = (al ++ [Alm.mk a k]).map almV)) (fun v19 => ?_))
            | (refine sl_f3 ?_; refine sl_app rfl rfl rfl rfl u_67 ⟨_, u_67, rfl⟩ el_86 (by repeat (first | exact sized_nil | exact sized_map (fun _ => ⟨rfl, rfl⟩) | refine sized_cons rfl rfl ?_ | refine sized_append ?_ ?_ | assumption)) (by repeat (first | exact sized_nil | exact sized_map (fun _ => ⟨rfl, rfl⟩) | refine sized_cons rfl rfl ?_ | refine sized_append ?_ ?_ | assumption)) (by simp only [List.length_map, List.length_cons, List.length_nil]; omega) ((by rw [List.map_append]; rfl : _ = (al ++ [Alm.mk a k]).map almV)) (fun v19 => ?_))
            | (refine sl_f4 ?_; refine sl_app rfl rfl rfl rfl u_67 ⟨_, u_67, rfl⟩ el_86 (by repeat (first | exact sized_nil | exact sized_map (fun _ => ⟨rfl, rfl⟩) | refine sized_cons rfl rfl ?_ | refine sized_append ?_ ?_ | assumption)) (by repeat (first | exact sized_nil | exact sized_map (fun _ => ⟨rfl, rfl⟩) | refine sized_cons rfl rfl ?_ | refine sized_append ?_ ?_ | assumption)) (by simp only [List.length_map, List.length_cons, List.length_nil]; omega) ((by rw [List.map_append]; rfl : _ = (al ++ [Alm.mk a k]).map almV)) (fun v19 => ?_))
            | (refine sl_f5 ?_; refine sl_app rfl rfl rfl rfl u_67 ⟨_, u_67, rfl⟩ el_86 (by repeat (first | exact sized_nil | exact sized_map (fun _ => ⟨rfl, rfl⟩) | refine sized_cons rfl rfl ?_ | refine sized_append ?_ ?_ | assumption)) (by repeat (first | exact sized_nil | exact sized_map (fun _ => ⟨rfl, rfl⟩) | refine sized_cons rfl rfl ?_ | refine sized_append ?_ ?_ | assumption)) (by simp only [List.length_map, List.length_cons, List.length_nil]; omega) ((by rw [List.map_append]; rfl : _ = (al ++ [Alm.mk a k]).map almV)) (fun v19 => ?_))
            | (refine sl_f6 ?_; refine sl_app rfl rfl rfl rfl u_67 ⟨_, u_67, rfl⟩ el_86 (by repeat (first | exact sized_nil | exact sized_map (fun _ => ⟨rfl, rfl⟩) | refine sized_cons rfl rfl ?_ | refine sized_append ?_ ?_ | assumption)) (by repeat (first | exact sized_nil | exact sized_map (fun _ => ⟨rfl, rfl⟩) | refine sized_cons rfl rfl ?_ | refine sized_append ?_ ?_ | assumption)) (by simp only [List.length_map, List.length_cons, List.length_nil]; omega) ((by rw [List.map_append]; rfl : _ = (al ++ [Alm.mk a k]).map almV)) (fun v19 => ?_))
          refine sl_nil ⟨exacts_nil, ?_⟩
          first
            | refine sa_take 8 rfl rfl (by kernel_rfl) (by kernel_rfl) (by kernel_rfl) exacts_nil (pu_fieldAddr_ptr rfl rfl fo_72_0) ?_
            | refine sa_take 8 rfl rfl (by kernel_rfl) (by kernel_rfl) (by kernel_rfl) exacts_nil (pu_fieldAddr_rp rfl rfl fo_72_0) ?_
            | refine sa_take 8 rfl rfl (by kernel_rfl) (by kernel_rfl) (by kernel_rfl) exacts_nil (pu_fieldAddr_ref rfl rfl fo_72_0) ?_
          refine sa_one 9 (by kernel_rfl) rfl ?_
          first
            | refine sl_st rfl rfl rfl rfl sz_67 rfl rfl rfl (Nat.le_of_ble_eq_true rfl) ?_
            | (refine sl_f1 ?_; refine sl_st rfl rfl rfl rfl sz_67 rfl rfl rfl (Nat.le_of_ble_eq_true rfl) ?_)
            | (refine sl_f2 ?_; refine sl_st rfl rfl rfl rfl sz_67 rfl rfl rfl (Nat.le_of_ble_eq_true rfl) ?_)
            | (refine sl_f3 ?_; refine sl_st rfl rfl rfl rfl sz_67 rfl rfl rfl (Nat.le_of_ble_eq_true rfl) ?_)
            | (refine sl_f4 ?_; refine sl_st rfl rfl rfl rfl sz_67 rfl rfl rfl (Nat.le_of_ble_eq_true rfl) ?_)
            | (refine sl_f5 ?_; refine sl_st rfl rfl rfl rfl sz_67 rfl rfl rfl (Nat.le_of_ble_eq_true rfl) ?_)
            | (refine sl_f6 ?_; refine sl_st rfl rfl rfl rfl sz_67 rfl rfl rfl (Nat.le_of_ble_eq_true rfl) ?_)
          refine sl_nil ⟨exacts_nil, ?_⟩
          refine sa_done (by kernel_rfl) ?_
          refine sl_region ?_
          first
            | refine sl_inc rfl rfl rfl rfl (by omega) ?_
            | refine sl_add rfl rfl rfl rfl (by constructor <;> omega) ?_
            | refine sl_bin rfl rfl rfl rfl rfl ?_
          refine sl_mv rfl rfl rfl ?_
          refine sl_nil ?_
          refine ⟨_, by omega, _, _, ?_, ?_, j + 1, v19, _, r4, rfl, rfl, rfl, rfl, by omega, many_succ hout (out_alm (st := some r2) (st1 := some r3) (st2 := some r4) h3 h4), by have := (decS_len h3).1; have := (decS_len h4).1; omega, by rw [List.length_append]; simp; omega⟩
          · refine ⟨rfl, ?_⟩; repeat (first | exact WkL.nil | refine WkL.cons (Weak.refl _) ?_ | refine WkL.cons (Weak.toV rfl) ?_ | refine WkL.cons (Weak.ref _) ?_ | refine WkL.cons (Weak.rp_agg _) ?_)
          · repeat (first | exact Sub.refl _ | exact Sub.none _ | refine Sub.p0 ?_ | refine Sub.p1 ?_ | refine Sub.p2 ?_ | refine Sub.p3 ?_ | refine Sub.p4 ?_ | refine Sub.p5 ?_ | refine Sub.p6 ?_ | refine Sub.drop ?_)
    · have hj1 : j = n := by have := of_decide_eq_false hj; omega
      subst hj1
      have o1 : Out decAl (some l) al (some r2) := al_good hc hout
      refine sw_exit ?_
      refine sw_seq ?_
      refine sl_region ?_
      refine sl_mv rfl rfl rfl ?_
      refine sl_callf rfl rfl cal_75 (rbool_ok q r2 (.blk b3 [.own v (al.map almV), .val (.bool false), .val (.bool false), .val (.int .i64 0), .val (.int .i64 0), .fix []] :: .spare v 2 :: .blk b2 [.fix [], .val (.bool false), .val (.bool false), .val (.int .i64 0), .val (.int .i64 0), .fix []] :: σ)) ?_ ?_ ?_ (fun _ _ h => by obtain ⟨h1, rfl, r, rfl⟩ := h; exact ⟨rfl, _, (by repeat (first | exact Sub.refl _ | exact Sub.none _ | refine Sub.p0 ?_ | refine Sub.p1 ?_ | refine Sub.p2 ?_ | refine Sub.p3 ?_ | refine Sub.p4 ?_ | refine Sub.p5 ?_ | refine Sub.p6 ?_ | refine Sub.drop ?_)), sum_bad_e o1 h1, rfl, _, rfl⟩)
      · repeat (first | exact Weaks.nil | refine Weaks.cons (Weak.junk _) ?_ | refine Weaks.cons (Weak.refl _) ?_ | refine Weaks.cons (Weak.toV rfl) ?_ | refine Weaks.cons (Weak.ref _) ?_ | refine Weaks.cons (Weak.rp_agg _) ?_)
      · repeat (first | exact Sub.refl _ | exact Sub.none _ | refine Sub.p0 ?_ | refine Sub.p1 ?_ | refine Sub.p2 ?_ | refine Sub.p3 ?_ | refine Sub.p4 ?_ | refine Sub.p5 ?_ | refine Sub.p6 ?_ | refine Sub.drop ?_)
      rintro _ _ ⟨e, s2, h2, rfl, rfl⟩
      first
        | refine sl_fieldAddr_ptr rfl rfl rfl fo_72_1 ?_
        | refine sl_fieldAddr_rp rfl rfl rfl fo_72_1 ?_
        | refine sl_fieldAddr_ref rfl rfl rfl fo_72_1 ?_
      first
        | refine sl_st rfl rfl rfl rfl sz_4 rfl rfl rfl (Nat.le_of_ble_eq_true rfl) ?_
        | (refine sl_f1 ?_; refine sl_st rfl rfl rfl rfl sz_4 rfl rfl rfl (Nat.le_of_ble_eq_true rfl) ?_)
        | (refine sl_f2 ?_; refine sl_st rfl rfl rfl rfl sz_4 rfl rfl rfl (Nat.le_of_ble_eq_true rfl) ?_)
        | (refine sl_f3 ?_; refine sl_st rfl rfl rfl rfl sz_4 rfl rfl rfl (Nat.le_of_ble_eq_true rfl) ?_)
        | (refine sl_f4 ?_; refine sl_st rfl rfl rfl rfl sz_4 rfl rfl rfl (Nat.le_of_ble_eq_true rfl) ?_)
        | (refine sl_f5 ?_; refine sl_st rfl rfl rfl rfl sz_4 rfl rfl rfl (Nat.le_of_ble_eq_true rfl) ?_)
        | (refine sl_f6 ?_; refine sl_st rfl rfl rfl rfl sz_4 rfl rfl rfl (Nat.le_of_ble_eq_true rfl) ?_)
      refine sl_nil ?_
      refine sw_seq ?_
      refine sl_region ?_
      refine sl_mv rfl rfl rfl ?_
      refine sl_callf rfl rfl cal_102 (rival_ok q s2 (.blk b3 [.own v (al.map almV), .val (boolV e), .val (.bool false), .val (.int .i64 0), .val (.int .i64 0), .fix []] :: .spare v 2 :: .blk b2 [.fix [], .val (.bool false), .val (.bool false), .val (.int .i64 0), .val (.int .i64 0), .fix []] :: σ)) ?_ ?_ ?_ (fun _ _ h => by obtain ⟨h1, rfl, r, rfl⟩ := h; exact ⟨rfl, _, (by repeat (first | exact Sub.refl _ | exact Sub.none _ | refine Sub.p0 ?_ | refine Sub.p1 ?_ | refine Sub.p2 ?_ | refine Sub.p3 ?_ | refine Sub.p4 ?_ | refine Sub.p5 ?_ | refine Sub.p6 ?_ | refine Sub.drop ?_)), sum_bad_v o1 h2 h1, rfl, _, rfl⟩)
      · repeat (first | exact Weaks.nil | refine Weaks.cons (Weak.junk _) ?_ | refine Weaks.cons (Weak.refl _) ?_ | refine Weaks.cons (Weak.toV rfl) ?_ | refine Weaks.cons (Weak.ref _) ?_ | refine Weaks.cons (Weak.rp_agg _) ?_)
      · repeat (first | exact Sub.refl _ | exact Sub.none _ | refine Sub.p0 ?_ | refine Sub.p1 ?_ | refine Sub.p2 ?_ | refine Sub.p3 ?_ | refine Sub.p4 ?_ | refine Sub.p5 ?_ | refine Sub.p6 ?_ | refine Sub.drop ?_)
      rintro _ _ ⟨i, s3, h3, rfl, rfl⟩
      have hs3 : s3.length ≤ l.length := by have := decB_len h2; have := decV_len h3; omega
      first
        | refine sl_fieldAddr_ptr rfl rfl rfl fo_72_2 ?_
        | refine sl_fieldAddr_rp rfl rfl rfl fo_72_2 ?_
        | refine sl_fieldAddr_ref rfl rfl rfl fo_72_2 ?_
      first
        | refine sl_st rfl rfl rfl rfl sz_69 rfl rfl rfl (Nat.le_of_ble_eq_true rfl) ?_
        | (refine sl_f1 ?_; refine sl_st rfl rfl rfl rfl sz_69 rfl rfl rfl (Nat.le_of_ble_eq_true rfl) ?_)
        | (refine sl_f2 ?_; refine sl_st rfl rfl rfl rfl sz_69 rfl rfl rfl (Nat.le_of_ble_eq_true rfl) ?_)
        | (refine sl_f3 ?_; refine sl_st rfl rfl rfl rfl sz_69 rfl rfl rfl (Nat.le_of_ble_eq_true rfl) ?_)
        | (refine sl_f4 ?_; refine sl_st rfl rfl rfl rfl sz_69 rfl rfl rfl (Nat.le_of_ble_eq_true rfl) ?_)
        | (refine sl_f5 ?_; refine sl_st rfl rfl rfl rfl sz_69 rfl rfl rfl (Nat.le_of_ble_eq_true rfl) ?_)
        | (refine sl_f6 ?_; refine sl_st rfl rfl rfl rfl sz_69 rfl rfl rfl (Nat.le_of_ble_eq_true rfl) ?_)
      refine sl_nil ?_
      refine sw_seq ?_
      refine sw_seq ?_
      refine sl_region ?_
      refine sl_mv rfl rfl rfl ?_
      refine sl_callf rfl rfl cal_100 (rcount_ok q s3 (.blk b3 [.own v (al.map almV), .val (boolV e), .val (.bool i.some), .val (.int .i64 i.lo), .val (.int .i64 i.hi), .fix []] :: .spare v 2 :: .blk b2 [.fix [], .val (.bool false), .val (.bool false), .val (.int .i64 0), .val (.int .i64 0), .fix []] :: σ) (Nat.le_trans hs3 hl)) ?_ ?_ ?_ (fun _ _ h => by obtain ⟨h1, rfl, r, rfl⟩ := h; exact ⟨rfl, _, (by repeat (first | exact Sub.refl _ | exact Sub.none _ | refine Sub.p0 ?_ | refine Sub.p1 ?_ | refine Sub.p2 ?_ | refine Sub.p3 ?_ | refine Sub.p4 ?_ | refine Sub.p5 ?_ | refine Sub.p6 ?_ | refine Sub.drop ?_)), sum_bad_ml o1 h2 h3 (ml_bad h1), rfl, _, rfl⟩)
      · repeat (first | exact Weaks.nil | refine Weaks.cons (Weak.junk _) ?_ | refine Weaks.cons (Weak.refl _) ?_ | refine Weaks.cons (Weak.toV rfl) ?_ | refine Weaks.cons (Weak.ref _) ?_ | refine Weaks.cons (Weak.rp_agg _) ?_)
      · repeat (first | exact Sub.refl _ | exact Sub.none _ | refine Sub.p0 ?_ | refine Sub.p1 ?_ | refine Sub.p2 ?_ | refine Sub.p3 ?_ | refine Sub.p4 ?_ | refine Sub.p5 ?_ | refine Sub.p6 ?_ | refine Sub.drop ?_)
      rintro _ _ ⟨n2, s4, hc2, rfl, rfl⟩
      have hr4 : s4.length ≤ l.length := Nat.le_trans (decC_inv hc2).2.2 hs3
      have hn2 : n2 ≤ s4.length := (decC_inv hc2).2.1
      refine sl_mv rfl rfl rfl ?_
      refine sl_nil ?_
      refine sw_block ?_
      refine sw_less (σ' := .blk b3 [.own v (al.map almV), .val (boolV e), .val (.bool i.some), .val (.int .i64 i.lo), .val (.int .i64 i.hi), .fix []] :: rd q s4 false :: .spare v 2 :: .blk b2 [.fix [], .val (.bool false), .val (.bool false), .val (.int .i64 0), .val (.int .i64 0), .fix []] :: σ) (by repeat (first | exact Sub.refl _ | exact Sub.none _ | refine Sub.p0 ?_ | refine Sub.p1 ?_ | refine Sub.p2 ?_ | refine Sub.p3 ?_ | refine Sub.p4 ?_ | refine Sub.p5 ?_ | refine Sub.p6 ?_ | refine Sub.drop ?_)) ?_
      refine sw_own_blk (i := 5) (sz := 4) rfl (fun e1 => ?_)
      refine sw_loopw (fun nX sX δX σX => ∃ (j2 : Nat) (v5 : Value) (ml : List Nmd) (s5 : List UInt8), (n2 - j2) = nX ∧ sX = ⟨45, (.cons 0 (.ptr q 0) (.cons 2 (.ptr b2 0) (.cons 3 (.ptr b3 0) (.cons 29 (.val (.int .i64 (n2 : Int))) (.cons 30 (.val (.int .i64 (j2 : Int))) .nil)))))⟩ ∧ δX = [] ∧ σX = rd q s5 false :: .blk b3 [.own v (al.map almV), .val (boolV e), .val (.bool i.some), .val (.int .i64 i.lo), .val (.int .i64 i.hi), .own v5 (ml.map nmdV)] :: .spare v5 4 :: .spare v 2 :: .blk b2 [.fix [], .val (.bool false), .val (.bool false), .val (.int .i64 0), .val (.int .i64 0), .fix []] :: σ ∧ j2 ≤ n2 ∧ Out (decMany decM j2) (some s4) ml (some s5) ∧ s5.length ≤ l.length ∧ ml.length ≤ j2) ?_ ?_
      · refine ⟨_, _, _, ?_, ?_, 0, e1, [], s4, rfl, rfl, rfl, rfl, Nat.zero_le _, many_zero s4, hr4, Nat.le_refl _⟩
        · refine ⟨rfl, ?_⟩; repeat (first | exact WkL.nil | refine WkL.cons (Weak.refl _) ?_ | refine WkL.cons (Weak.toV rfl) ?_ | refine WkL.cons (Weak.ref _) ?_ | refine WkL.cons (Weak.rp_agg _) ?_)
        · repeat (first | exact Sub.refl _ | exact Sub.none _ | refine Sub.p0 ?_ | refine Sub.p1 ?_ | refine Sub.p2 ?_ | refine Sub.p3 ?_ | refine Sub.p4 ?_ | refine Sub.p5 ?_ | refine Sub.p6 ?_ | refine Sub.drop ?_)
      · rintro nX sX δX σX ⟨j2, v5, ml, s5, rfl, rfl, rfl, rfl, hj0', hout2, hs5, hml⟩
        refine sw_seq ?_
        refine sl_region ?_
        refine sl_bin rfl rfl rfl rfl rfl ?_
        refine sl_nil ?_
        refine sw_seq ?_
        refine sw_cond rfl (fun hj => ?_) (fun hj => ?_)
        · have hj1 : j2 < n2 := by have := of_decide_eq_true hj; omega
          refine sw_skip ?_
          refine sw_seq ?_
          refine sw_block ?_
          refine sw_seq ?_
          refine sl_region ?_
          refine sl_mv rfl rfl rfl ?_
          refine sl_callf rfl rfl cal_71 (rtext_ok q s5 (.blk b3 [.own v (al.map almV), .val (boolV e), .val (.bool i.some), .val (.int .i64 i.lo), .val (.int .i64 i.hi), .own v5 (ml.map nmdV)] :: .spare v5 4 :: .spare v 2 :: .blk b2 [.fix [], .val (.bool false), .val (.bool false), .val (.int .i64 0), .val (.int .i64 0), .fix []] :: σ) (Nat.le_trans hs5 hl)) ?_ ?_ ?_ (fun _ _ h => by obtain ⟨h1, rfl, r, rfl⟩ := h; exact ⟨rfl, _, (by repeat (first | exact Sub.refl _ | exact Sub.none _ | refine Sub.p0 ?_ | refine Sub.p1 ?_ | refine Sub.p2 ?_ | refine Sub.p3 ?_ | refine Sub.p4 ?_ | refine Sub.p5 ?_ | refine Sub.p6 ?_ | refine Sub.drop ?_)), sum_bad_ml o1 h2 h3 (ml_good hc2 (many_bad hout2 (decM_bad1 h1) hj1)), rfl, _, rfl⟩)
          · repeat (first | exact Weaks.nil | refine Weaks.cons (Weak.junk _) ?_ | refine Weaks.cons (Weak.refl _) ?_ | refine Weaks.cons (Weak.toV rfl) ?_ | refine Weaks.cons (Weak.ref _) ?_ | refine Weaks.cons (Weak.rp_agg _) ?_)
          · repeat (first | exact Sub.refl _ | exact Sub.none _ | refine Sub.p0 ?_ | refine Sub.p1 ?_ | refine Sub.p2 ?_ | refine Sub.p3 ?_ | refine Sub.p4 ?_ | refine Sub.p5 ?_ | refine Sub.p6 ?_ | refine Sub.drop ?_)
          rintro _ _ ⟨t, s6, h6, rfl, rfl⟩
          refine sl_as rfl rfl rfl ?_
          refine sl_nil ?_
          refine sa_start [] mixed ?_
          first
            | refine sa_take 0 rfl rfl (by kernel_rfl) (by kernel_rfl) (by kernel_rfl) exacts_nil (pu_fieldAddr_ptr rfl rfl fo_72_3) ?_
            | refine sa_take 0 rfl rfl (by kernel_rfl) (by kernel_rfl) (by kernel_rfl) exacts_nil (pu_fieldAddr_rp rfl rfl fo_72_3) ?_
            | refine sa_take 0 rfl rfl (by kernel_rfl) (by kernel_rfl) (by kernel_rfl) exacts_nil (pu_fieldAddr_ref rfl rfl fo_72_3) ?_
          refine sa_take 2 rfl rfl (by kernel_rfl) (by kernel_rfl) (by kernel_rfl) exacts_nil (pu_mv rfl rfl) ?_
          refine sa_take 3 rfl rfl (by kernel_rfl) (by kernel_rfl) (by kernel_rfl) exacts_nil (pu_mv rfl rfl) ?_
          refine sa_two 1 4 (by kernel_rfl) rfl rfl ?_ ?_
          · refine sl_load_blk1 rfl rfl rfl ag_70 (by first | exact List.Mem.head _ | exact List.Mem.tail _ (List.Mem.head _) | exact List.Mem.tail _ (List.Mem.tail _ (List.Mem.head _)) | exact List.Mem.tail _ (List.Mem.tail _ (List.Mem.tail _ (List.Mem.head _))) | exact List.Mem.tail _ (List.Mem.tail _ (List.Mem.tail _ (List.Mem.tail _ (List.Mem.head _)))) | exact List.Mem.tail _ (List.Mem.tail _ (List.Mem.tail _ (List.Mem.tail _ (List.Mem.tail _ (List.Mem.head _)))))) rfl ?_
            refine sl_nil ⟨exacts_nil, ?_⟩
            refine sa_one 4 (by kernel_rfl) rfl ?_
            refine sl_callf rfl rfl cal_102 (rival_ok q s6 (.blk b3 [.own v (al.map almV), .val (boolV e), .val (.bool i.some), .val (.int .i64 i.lo), .val (.int .i64 i.hi), .own v5 (ml.map nmdV)] :: .spare v5 4 :: .spare v 2 :: .blk b2 [.fix [], .val (.bool false), .val (.bool false), .val (.int .i64 0), .val (.int .i64 0), .fix []] :: σ)) ?_ ?_ ?_ (fun _ _ h => by obtain ⟨h1, rfl, r, rfl⟩ := h; exact ⟨rfl, _, (by repeat (first | exact Sub.refl _ | exact Sub.none _ | refine Sub.p0 ?_ | refine Sub.p1 ?_ | refine Sub.p2 ?_ | refine Sub.p3 ?_ | refine Sub.p4 ?_ | refine Sub.p5 ?_ | refine Sub.p6 ?_ | refine Sub.drop ?_)), sum_bad_ml o1 h2 h3 (ml_good hc2 (many_bad hout2 (decM_bad2 h6 h1) hj1)), rfl, _, rfl⟩)
            · repeat (first | exact Weaks.nil | refine Weaks.cons (Weak.junk _) ?_ | refine Weaks.cons (Weak.refl _) ?_ | refine Weaks.cons (Weak.toV rfl) ?_ | refine Weaks.cons (Weak.ref _) ?_ | refine Weaks.cons (Weak.rp_agg _) ?_)
            · repeat (first | exact Sub.refl _ | exact Sub.none _ | refine Sub.p0 ?_ | refine Sub.p1 ?_ | refine Sub.p2 ?_ | refine Sub.p3 ?_ | refine Sub.p4 ?_ | refine Sub.p5 ?_ | refine Sub.p6 ?_ | refine Sub.drop ?_)
            rintro _ _ ⟨i7, s7, h7, rfl, rfl⟩
            refine sl_nil ⟨exacts_nil, ?_⟩
            refine sa_take 5 rfl rfl (by kernel_rfl) (by kernel_rfl) (by kernel_rfl) exacts_nil (pu_bd rfl (.cons rfl (.cons rfl .nil)) bi_127 zd_127 rfl) ?_
            refine sa_one 6 (by kernel_rfl) rfl ?_
            refine sl_bsn ([nmdV ⟨t, i7⟩]) rfl rfl (.cons rfl .nil) u_70 sz_127 zs_127 (by decide) rfl rfl rfl (by repeat (first | exact sized_nil | exact sized_map (fun _ => ⟨rfl, rfl⟩) | refine sized_cons rfl rfl ?_ | refine sized_append ?_ ?_ | assumption)) ?_
            refine sl_nil ⟨exacts_nil, ?_⟩
            refine sa_one 7 (by kernel_rfl) rfl ?_
            first
              | refine sl_app rfl rfl rfl rfl u_70 ⟨_, u_70, rfl⟩ el_127 (by repeat (first | exact sized_nil | exact sized_map (fun _ => ⟨rfl, rfl⟩) | refine sized_cons rfl rfl ?_ | refine sized_append ?_ ?_ | assumption)) (by repeat (first | exact sized_nil | exact sized_map (fun _ => ⟨rfl, rfl⟩) | refine sized_cons rfl rfl ?_ | refine sized_append ?_ ?_ | assumption)) (by simp only [List.length_map, List.length_cons, List.length_nil]; omega) ((by rw [List.map_append]; rfl : _ = (ml ++ [Nmd.mk t i7]).map nmdV)) (fun v41 => ?_)
              | (refine sl_f1 ?_; refine sl_app rfl rfl rfl rfl u_70 ⟨_, u_70, rfl⟩ el_127 (by repeat (first | exact sized_nil | exact sized_map (fun _ => ⟨rfl, rfl⟩) | refine sized_cons rfl rfl ?_ | refine sized_append ?_ ?_ | assumption)) (by repeat (first | exact sized_nil | exact sized_map (fun _ => ⟨rfl, rfl⟩) | refine sized_cons rfl rfl ?_ | refine sized_append ?_ ?_ | assumption)) (by simp only [List.length_map, List.length_cons, List.length_nil]; omega) ((by rw [List.map_append]; rfl : _ = (ml ++ [Nmd.mk t i7]).map nmdV)) (fun v41 => ?_))
              | (refine sl_f2 ?_; refine sl_app rfl rfl rfl rfl u_70 ⟨_, u_70, rfl⟩ el_127 (by repeat (first | exact sized_nil | exact sized_map (fun _ => ⟨rfl, rfl⟩) | refine sized_cons rfl rfl ?_ | refine sized_append ?_ ?_ | assumption)) (by repeat (first | exact sized_nil | exact sized_map (fun _ => ⟨rfl, rfl⟩) | refine sized_cons rfl rfl ?_ | refine sized_append ?_ ?_ | assumption)) (by simp only [List.length_map, List.length_cons, List.length_nil]; omega) ((by rw [List.map_append]; rfl : _ = (ml ++ [Nmd.mk t i7]).map nmdV)) (fun v41 => ?_))
              | (refine sl_f3 ?_; refine sl_app rfl rfl rfl rfl u_70 ⟨_, u_70, rfl⟩ el_127 (by repeat (first | exact sized_nil | exact sized_map (fun _ => ⟨rfl, rfl⟩) | refine sized_cons rfl rfl ?_ | refine sized_append ?_ ?_ | assumption)) (by repeat (first | exact sized_nil | exact sized_map (fun _ => ⟨rfl, rfl⟩) | refine sized_cons rfl rfl ?_ | refine sized_append ?_ ?_ | assumption)) (by simp only [List.length_map, List.length_cons, List.length_nil]; omega) ((by rw [List.map_append]; rfl : _ = (ml ++ [Nmd.mk t i7]).map nmdV)) (fun v41 => ?_))
              | (refine sl_f4 ?_; refine sl_app rfl rfl rfl rfl u_70 ⟨_, u_70, rfl⟩ el_127 (by repeat (first | exact sized_nil | exact sized_map (fun _ => ⟨rfl, rfl⟩) | refine sized_cons rfl rfl ?_ | refine sized_append ?_ ?_ | assumption)) (by repeat (first | exact sized_nil | exact sized_map (fun _ => ⟨rfl, rfl⟩) | refine sized_cons rfl rfl ?_ | refine sized_append ?_ ?_ | assumption)) (by simp only [List.length_map, List.length_cons, List.length_nil]; omega) ((by rw [List.map_append]; rfl : _ = (ml ++ [Nmd.mk t i7]).map nmdV)) (fun v41 => ?_))
              | (refine sl_f5 ?_; refine sl_app rfl rfl rfl rfl u_70 ⟨_, u_70, rfl⟩ el_127 (by repeat (first | exact sized_nil | exact sized_map (fun _ => ⟨rfl, rfl⟩) | refine sized_cons rfl rfl ?_ | refine sized_append ?_ ?_ | assumption)) (by repeat (first | exact sized_nil | exact sized_map (fun _ => ⟨rfl, rfl⟩) | refine sized_cons rfl rfl ?_ | refine sized_append ?_ ?_ | assumption)) (by simp only [List.length_map, List.length_cons, List.length_nil]; omega) ((by rw [List.map_append]; rfl : _ = (ml ++ [Nmd.mk t i7]).map nmdV)) (fun v41 => ?_))
              | (refine sl_f6 ?_; refine sl_app rfl rfl rfl rfl u_70 ⟨_, u_70, rfl⟩ el_127 (by repeat (first | exact sized_nil | exact sized_map (fun _ => ⟨rfl, rfl⟩) | refine sized_cons rfl rfl ?_ | refine sized_append ?_ ?_ | assumption)) (by repeat (first | exact sized_nil | exact sized_map (fun _ => ⟨rfl, rfl⟩) | refine sized_cons rfl rfl ?_ | refine sized_append ?_ ?_ | assumption)) (by simp only [List.length_map, List.length_cons, List.length_nil]; omega) ((by rw [List.map_append]; rfl : _ = (ml ++ [Nmd.mk t i7]).map nmdV)) (fun v41 => ?_))
            refine sl_nil ⟨exacts_nil, ?_⟩
            first
              | refine sa_take 8 rfl rfl (by kernel_rfl) (by kernel_rfl) (by kernel_rfl) exacts_nil (pu_fieldAddr_ptr rfl rfl fo_72_3) ?_
              | refine sa_take 8 rfl rfl (by kernel_rfl) (by kernel_rfl) (by kernel_rfl) exacts_nil (pu_fieldAddr_rp rfl rfl fo_72_3) ?_
              | refine sa_take 8 rfl rfl (by kernel_rfl) (by kernel_rfl) (by kernel_rfl) exacts_nil (pu_fieldAddr_ref rfl rfl fo_72_3) ?_
            refine sa_one 9 (by kernel_rfl) rfl ?_
            first
              | refine sl_st rfl rfl rfl rfl sz_70 rfl rfl rfl (Nat.le_of_ble_eq_true rfl) ?_
              | (refine sl_f1 ?_; refine sl_st rfl rfl rfl rfl sz_70 rfl rfl rfl (Nat.le_of_ble_eq_true rfl) ?_)
              | (refine sl_f2 ?_; refine sl_st rfl rfl rfl rfl sz_70 rfl rfl rfl (Nat.le_of_ble_eq_true rfl) ?_)
              | (refine sl_f3 ?_; refine sl_st rfl rfl rfl rfl sz_70 rfl rfl rfl (Nat.le_of_ble_eq_true rfl) ?_)
              | (refine sl_f4 ?_; refine sl_st rfl rfl rfl rfl sz_70 rfl rfl rfl (Nat.le_of_ble_eq_true rfl) ?_)
              | (refine sl_f5 ?_; refine sl_st rfl rfl rfl rfl sz_70 rfl rfl rfl (Nat.le_of_ble_eq_true rfl) ?_)
              | (refine sl_f6 ?_; refine sl_st rfl rfl rfl rfl sz_70 rfl rfl rfl (Nat.le_of_ble_eq_true rfl) ?_)
            refine sl_nil ⟨exacts_nil, ?_⟩
            refine sa_done (by kernel_rfl) ?_
            refine sl_region ?_
            first
              | refine sl_inc rfl rfl rfl rfl (by omega) ?_
              | refine sl_add rfl rfl rfl rfl (by constructor <;> omega) ?_
              | refine sl_bin rfl rfl rfl rfl rfl ?_
            refine sl_mv rfl rfl rfl ?_
            refine sl_nil ?_
            refine ⟨_, by omega, _, _, ?_, ?_, j2 + 1, v41, _, s7, rfl, rfl, rfl, rfl, by omega, many_succ hout2 (out_nmd (st := some s5) (st1 := some s6) (st2 := some s7) h6 h7), by have := decT_len h6; have := decV_len h7; omega, by rw [List.length_append]; simp; omega⟩
            · refine ⟨rfl, ?_⟩; repeat (first | exact WkL.nil | refine WkL.cons (Weak.refl _) ?_ | refine WkL.cons (Weak.toV rfl) ?_ | refine WkL.cons (Weak.ref _) ?_ | refine WkL.cons (Weak.rp_agg _) ?_)
            · repeat (first | exact Sub.refl _ | exact Sub.none _ | refine Sub.p0 ?_ | refine Sub.p1 ?_ | refine Sub.p2 ?_ | refine Sub.p3 ?_ | refine Sub.p4 ?_ | refine Sub.p5 ?_ | refine Sub.p6 ?_ | refine Sub.drop ?_)
          · refine sl_callf rfl rfl cal_102 (rival_ok q s6 (.blk b3 [.own v (al.map almV), .val (boolV e), .val (.bool i.some), .val (.int .i64 i.lo), .val (.int .i64 i.hi), .own v5 (ml.map nmdV)] :: .spare v5 4 :: .spare v 2 :: .blk b2 [.fix [], .val (.bool false), .val (.bool false), .val (.int .i64 0), .val (.int .i64 0), .fix []] :: σ)) ?_ ?_ ?_ (fun _ _ h => by obtain ⟨h1, rfl, r, rfl⟩ := h; exact ⟨rfl, _, (by repeat (first | exact Sub.refl _ | exact Sub.none _ | refine Sub.p0 ?_ | refine Sub.p1 ?_ | refine Sub.p2 ?_ | refine Sub.p3 ?_ | refine Sub.p4 ?_ | refine Sub.p5 ?_ | refine Sub.p6 ?_ | refine Sub.drop ?_)), sum_bad_ml o1 h2 h3 (ml_good hc2 (many_bad hout2 (decM_bad2 h6 h1) hj1)), rfl, _, rfl⟩)
            · repeat (first | exact Weaks.nil | refine Weaks.cons (Weak.junk _) ?_ | refine Weaks.cons (Weak.refl _) ?_ | refine Weaks.cons (Weak.toV rfl) ?_ | refine Weaks.cons (Weak.ref _) ?_ | refine Weaks.cons (Weak.rp_agg _) ?_)
            · repeat (first | exact Sub.refl _ | exact Sub.none _ | refine Sub.p0 ?_ | refine Sub.p1 ?_ | refine Sub.p2 ?_ | refine Sub.p3 ?_ | refine Sub.p4 ?_ | refine Sub.p5 ?_ | refine Sub.p6 ?_ | refine Sub.drop ?_)
            rintro _ _ ⟨i7, s7, h7, rfl, rfl⟩
            refine sl_nil ⟨exacts_nil, ?_⟩
            refine sa_take 5 rfl rfl (by kernel_rfl) (by kernel_rfl) (by kernel_rfl) exacts_nil (pu_bd rfl (.cons rfl (.cons rfl .nil)) bi_127 zd_127 rfl) ?_
            refine sa_two 1 6 (by kernel_rfl) rfl rfl ?_ ?_
            · refine sl_load_blk1 rfl rfl rfl ag_70 (by first | exact List.Mem.head _ | exact List.Mem.tail _ (List.Mem.head _) | exact List.Mem.tail _ (List.Mem.tail _ (List.Mem.head _)) | exact List.Mem.tail _ (List.Mem.tail _ (List.Mem.tail _ (List.Mem.head _))) | exact List.Mem.tail _ (List.Mem.tail _ (List.Mem.tail _ (List.Mem.tail _ (List.Mem.head _)))) | exact List.Mem.tail _ (List.Mem.tail _ (List.Mem.tail _ (List.Mem.tail _ (List.Mem.tail _ (List.Mem.head _)))))) rfl ?_
              refine sl_nil ⟨exacts_nil, ?_⟩
              refine sa_one 6 (by kernel_rfl) rfl ?_
              refine sl_bsn ([nmdV ⟨t, i7⟩]) rfl rfl (.cons rfl .nil) u_70 sz_127 zs_127 (by decide) rfl rfl rfl (by repeat (first | exact sized_nil | exact sized_map (fun _ => ⟨rfl, rfl⟩) | refine sized_cons rfl rfl ?_ | refine sized_append ?_ ?_ | assumption)) ?_
              refine sl_nil ⟨exacts_nil, ?_⟩
              refine sa_one 7 (by kernel_rfl) rfl ?_
              first
                | refine sl_app rfl rfl rfl rfl u_70 ⟨_, u_70, rfl⟩ el_127 (by repeat (first | exact sized_nil | exact sized_map (fun _ => ⟨rfl, rfl⟩) | refine sized_cons rfl rfl ?_ | refine sized_append ?_ ?_ | assumption)) (by repeat (first | exact sized_nil | exact sized_map (fun _ => ⟨rfl, rfl⟩) | refine sized_cons rfl rfl ?_ | refine sized_append ?_ ?_ | assumption)) (by simp only [List.length_map, List.length_cons, List.length_nil]; omega) ((by rw [List.map_append]; rfl : _ = (ml ++ [Nmd.mk t i7]).map nmdV)) (fun v41 => ?_)
                | (refine sl_f1 ?_; refine sl_app rfl rfl rfl rfl u_70 ⟨_, u_70, rfl⟩ el_127 (by repeat (first | exact sized_nil | exact sized_map (fun _ => ⟨rfl, rfl⟩) | refine sized_cons rfl rfl ?_ | refine sized_append ?_ ?_ | assumption)) (by repeat (first | exact sized_nil | exact sized_map (fun _ => ⟨rfl, rfl⟩) | refine sized_cons rfl rfl ?_ | refine sized_append ?_ ?_ | assumption)) (by simp only [List.length_map, List.length_cons, List.length_nil]; omega) ((by rw [List.map_append]; rfl : _ = (ml ++ [Nmd.mk t i7]).map nmdV)) (fun v41 => ?_))
                | (refine sl_f2 ?_; refine sl_app rfl rfl rfl rfl u_70 ⟨_, u_70, rfl⟩ el_127 (by repeat (first | exact sized_nil | exact sized_map (fun _ => ⟨rfl, rfl⟩) | refine sized_cons rfl rfl ?_ | refine sized_append ?_ ?_ | assumption)) (by repeat (first | exact sized_nil | exact sized_map (fun _ => ⟨rfl, rfl⟩) | refine sized_cons rfl rfl ?_ | refine sized_append ?_ ?_ | assumption)) (by simp only [List.length_map, List.length_cons, List.length_nil]; omega) ((by rw [List.map_append]; rfl : _ = (ml ++ [Nmd.mk t i7]).map nmdV)) (fun v41 => ?_))
                | (refine sl_f3 ?_; refine sl_app rfl rfl rfl rfl u_70 ⟨_, u_70, rfl⟩ el_127 (by repeat (first | exact sized_nil | exact sized_map (fun _ => ⟨rfl, rfl⟩) | refine sized_cons rfl rfl ?_ | refine sized_append ?_ ?_ | assumption)) (by repeat (first | exact sized_nil | exact sized_map (fun _ => ⟨rfl, rfl⟩) | refine sized_cons rfl rfl ?_ | refine sized_append ?_ ?_ | assumption)) (by simp only [List.length_map, List.length_cons, List.length_nil]; omega) ((by rw [List.map_append]; rfl : _ = (ml ++ [Nmd.mk t i7]).map nmdV)) (fun v41 => ?_))
                | (refine sl_f4 ?_; refine sl_app rfl rfl rfl rfl u_70 ⟨_, u_70, rfl⟩ el_127 (by repeat (first | exact sized_nil | exact sized_map (fun _ => ⟨rfl, rfl⟩) | refine sized_cons rfl rfl ?_ | refine sized_append ?_ ?_ | assumption)) (by repeat (first | exact sized_nil | exact sized_map (fun _ => ⟨rfl, rfl⟩) | refine sized_cons rfl rfl ?_ | refine sized_append ?_ ?_ | assumption)) (by simp only [List.length_map, List.length_cons, List.length_nil]; omega) ((by rw [List.map_append]; rfl : _ = (ml ++ [Nmd.mk t i7]).map nmdV)) (fun v41 => ?_))
                | (refine sl_f5 ?_; refine sl_app rfl rfl rfl rfl u_70 ⟨_, u_70, rfl⟩ el_127 (by repeat (first | exact sized_nil | exact sized_map (fun _ => ⟨rfl, rfl⟩) | refine sized_cons rfl rfl ?_ | refine sized_append ?_ ?_ | assumption)) (by repeat (first | exact sized_nil | exact sized_map (fun _ => ⟨rfl, rfl⟩) | refine sized_cons rfl rfl ?_ | refine sized_append ?_ ?_ | assumption)) (by simp only [List.length_map, List.length_cons, List.length_nil]; omega) ((by rw [List.map_append]; rfl : _ = (ml ++ [Nmd.mk t i7]).map nmdV)) (fun v41 => ?_))
                | (refine sl_f6 ?_; refine sl_app rfl rfl rfl rfl u_70 ⟨_, u_70, rfl⟩ el_127 (by repeat (first | exact sized_nil | exact sized_map (fun _ => ⟨rfl, rfl⟩) | refine sized_cons rfl rfl ?_ | refine sized_append ?_ ?_ | assumption)) (by repeat (first | exact sized_nil | exact sized_map (fun _ => ⟨rfl, rfl⟩) | refine sized_cons rfl rfl ?_ | refine sized_append ?_ ?_ | assumption)) (by simp only [List.length_map, List.length_cons, List.length_nil]; omega) ((by rw [List.map_append]; rfl : _ = (ml ++ [Nmd.mk t i7]).map nmdV)) (fun v41 => ?_))
              refine sl_nil ⟨exacts_nil, ?_⟩
              first
                | refine sa_take 8 rfl rfl (by kernel_rfl) (by kernel_rfl) (by kernel_rfl) exacts_nil (pu_fieldAddr_ptr rfl rfl fo_72_3) ?_
                | refine sa_take 8 rfl rfl (by kernel_rfl) (by kernel_rfl) (by kernel_rfl) exacts_nil (pu_fieldAddr_rp rfl rfl fo_72_3) ?_
                | refine sa_take 8 rfl rfl (by kernel_rfl) (by kernel_rfl) (by kernel_rfl) exacts_nil (pu_fieldAddr_ref rfl rfl fo_72_3) ?_
              refine sa_one 9 (by kernel_rfl) rfl ?_
              first
                | refine sl_st rfl rfl rfl rfl sz_70 rfl rfl rfl (Nat.le_of_ble_eq_true rfl) ?_
                | (refine sl_f1 ?_; refine sl_st rfl rfl rfl rfl sz_70 rfl rfl rfl (Nat.le_of_ble_eq_true rfl) ?_)
                | (refine sl_f2 ?_; refine sl_st rfl rfl rfl rfl sz_70 rfl rfl rfl (Nat.le_of_ble_eq_true rfl) ?_)
                | (refine sl_f3 ?_; refine sl_st rfl rfl rfl rfl sz_70 rfl rfl rfl (Nat.le_of_ble_eq_true rfl) ?_)
                | (refine sl_f4 ?_; refine sl_st rfl rfl rfl rfl sz_70 rfl rfl rfl (Nat.le_of_ble_eq_true rfl) ?_)
                | (refine sl_f5 ?_; refine sl_st rfl rfl rfl rfl sz_70 rfl rfl rfl (Nat.le_of_ble_eq_true rfl) ?_)
                | (refine sl_f6 ?_; refine sl_st rfl rfl rfl rfl sz_70 rfl rfl rfl (Nat.le_of_ble_eq_true rfl) ?_)
              refine sl_nil ⟨exacts_nil, ?_⟩
              refine sa_done (by kernel_rfl) ?_
              refine sl_region ?_
              first
                | refine sl_inc rfl rfl rfl rfl (by omega) ?_
                | refine sl_add rfl rfl rfl rfl (by constructor <;> omega) ?_
                | refine sl_bin rfl rfl rfl rfl rfl ?_
              refine sl_mv rfl rfl rfl ?_
              refine sl_nil ?_
              refine ⟨_, by omega, _, _, ?_, ?_, j2 + 1, v41, _, s7, rfl, rfl, rfl, rfl, by omega, many_succ hout2 (out_nmd (st := some s5) (st1 := some s6) (st2 := some s7) h6 h7), by have := decT_len h6; have := decV_len h7; omega, by rw [List.length_append]; simp; omega⟩
              · refine ⟨rfl, ?_⟩; repeat (first | exact WkL.nil | refine WkL.cons (Weak.refl _) ?_ | refine WkL.cons (Weak.toV rfl) ?_ | refine WkL.cons (Weak.ref _) ?_ | refine WkL.cons (Weak.rp_agg _) ?_)
              · repeat (first | exact Sub.refl _ | exact Sub.none _ | refine Sub.p0 ?_ | refine Sub.p1 ?_ | refine Sub.p2 ?_ | refine Sub.p3 ?_ | refine Sub.p4 ?_ | refine Sub.p5 ?_ | refine Sub.p6 ?_ | refine Sub.drop ?_)
            · refine sl_bsn ([nmdV ⟨t, i7⟩]) rfl rfl (.cons rfl .nil) u_70 sz_127 zs_127 (by decide) rfl rfl rfl (by repeat (first | exact sized_nil | exact sized_map (fun _ => ⟨rfl, rfl⟩) | refine sized_cons rfl rfl ?_ | refine sized_append ?_ ?_ | assumption)) ?_
              refine sl_nil ⟨exacts_nil, ?_⟩
              refine sa_one 1 (by kernel_rfl) rfl ?_
              refine sl_load_blk1 rfl rfl rfl ag_70 (by first | exact List.Mem.head _ | exact List.Mem.tail _ (List.Mem.head _) | exact List.Mem.tail _ (List.Mem.tail _ (List.Mem.head _)) | exact List.Mem.tail _ (List.Mem.tail _ (List.Mem.tail _ (List.Mem.head _))) | exact List.Mem.tail _ (List.Mem.tail _ (List.Mem.tail _ (List.Mem.tail _ (List.Mem.head _)))) | exact List.Mem.tail _ (List.Mem.tail _ (List.Mem.tail _ (List.Mem.tail _ (List.Mem.tail _ (List.Mem.head _)))))) rfl ?_
              refine sl_nil ⟨exacts_nil, ?_⟩
              refine sa_one 7 (by kernel_rfl) rfl ?_
              first
                | refine sl_app rfl rfl rfl rfl u_70 ⟨_, u_70, rfl⟩ el_127 (by repeat (first | exact sized_nil | exact sized_map (fun _ => ⟨rfl, rfl⟩) | refine sized_cons rfl rfl ?_ | refine sized_append ?_ ?_ | assumption)) (by repeat (first | exact sized_nil | exact sized_map (fun _ => ⟨rfl, rfl⟩) | refine sized_cons rfl rfl ?_ | refine sized_append ?_ ?_ | assumption)) (by simp only [List.length_map, List.length_cons, List.length_nil]; omega) ((by rw [List.map_append]; rfl : _ = (ml ++ [Nmd.mk t i7]).map nmdV)) (fun v41 => ?_)
                | (refine sl_f1 ?_; refine sl_app rfl rfl rfl rfl u_70 ⟨_, u_70, rfl⟩ el_127 (by repeat (first | exact sized_nil | exact sized_map (fun _ => ⟨rfl, rfl⟩) | refine sized_cons rfl rfl ?_ | refine sized_append ?_ ?_ | assumption)) (by repeat (first | exact sized_nil | exact sized_map (fun _ => ⟨rfl, rfl⟩) | refine sized_cons rfl rfl ?_ | refine sized_append ?_ ?_ | assumption)) (by simp only [List.length_map, List.length_cons, List.length_nil]; omega) ((by rw [List.map_append]; rfl : _ = (ml ++ [Nmd.mk t i7]).map nmdV)) (fun v41 => ?_))
                | (refine sl_f2 ?_; refine sl_app rfl rfl rfl rfl u_70 ⟨_, u_70, rfl⟩ el_127 (by repeat (first | exact sized_nil | exact sized_map (fun _ => ⟨rfl, rfl⟩) | refine sized_cons rfl rfl ?_ | refine sized_append ?_ ?_ | assumption)) (by repeat (first | exact sized_nil | exact sized_map (fun _ => ⟨rfl, rfl⟩) | refine sized_cons rfl rfl ?_ | refine sized_append ?_ ?_ | assumption)) (by simp only [List.length_map, List.length_cons, List.length_nil]; omega) ((by rw [List.map_append]; rfl : _ = (ml ++ [Nmd.mk t i7]).map nmdV)) (fun v41 => ?_))
                | (refine sl_f3 ?_; refine sl_app rfl rfl rfl rfl u_70 ⟨_, u_70, rfl⟩ el_127 (by repeat (first | exact sized_nil | exact sized_map (fun _ => ⟨rfl, rfl⟩) | refine sized_cons rfl rfl ?_ | refine sized_append ?_ ?_ | assumption)) (by repeat (first | exact sized_nil | exact sized_map (fun _ => ⟨rfl, rfl⟩) | refine sized_cons rfl rfl ?_ | refine sized_append ?_ ?_ | assumption)) (by simp only [List.length_map, List.length_cons, List.length_nil]; omega) ((by rw [List.map_append]; rfl : _ = (ml ++ [Nmd.mk t i7]).map nmdV)) (fun v41 => ?_))
                | (refine sl_f4 ?_; refine sl_app rfl rfl rfl rfl u_70 ⟨_, u_70, rfl⟩ el_127 (by repeat (first | exact sized_nil | exact sized_map (fun _ => ⟨rfl, rfl⟩) | refine sized_cons rfl rfl ?_ | refine sized_append ?_ ?_ | assumption)) (by repeat (first | exact sized_nil | exact sized_map (fun _ => ⟨rfl, rfl⟩) | refine sized_cons rfl rfl ?_ | refine sized_append ?_ ?_ | assumption)) (by simp only [List.length_map, List.length_cons, List.length_nil]; omega) ((by rw [List.map_append]; rfl : _ = (ml ++ [Nmd.mk t i7]).map nmdV)) (fun v41 => ?_))
                | (refine sl_f5 ?_; refine sl_app rfl rfl rfl rfl u_70 ⟨_, u_70, rfl⟩ el_127 (by repeat (first | exact sized_nil | exact sized_map (fun _ => ⟨rfl, rfl⟩) | refine sized_cons rfl rfl ?_ | refine sized_append ?_ ?_ | assumption)) (by repeat (first | exact sized_nil | exact sized_map (fun _ => ⟨rfl, rfl⟩) | refine sized_cons rfl rfl ?_ | refine sized_append ?_ ?_ | assumption)) (by simp only [List.length_map, List.length_cons, List.length_nil]; omega) ((by rw [List.map_append]; rfl : _ = (ml ++ [Nmd.mk t i7]).map nmdV)) (fun v41 => ?_))
                | (refine sl_f6 ?_; refine sl_app rfl rfl rfl rfl u_70 ⟨_, u_70, rfl⟩ el_127 (by repeat (first | exact sized_nil | exact sized_map (fun _ => ⟨rfl, rfl⟩) | refine sized_cons rfl rfl ?_ | refine sized_append ?_ ?_ | assumption)) (by repeat (first | exact sized_nil | exact sized_map (fun _ => ⟨rfl, rfl⟩) | refine sized_cons rfl rfl ?_ | refine sized_append ?_ ?_ | assumption)) (by simp only [List.length_map, List.length_cons, List.length_nil]; omega) ((by rw [List.map_append]; rfl : _ = (ml ++ [Nmd.mk t i7]).map nmdV)) (fun v41 => ?_))
              refine sl_nil ⟨exacts_nil, ?_⟩
              first
                | refine sa_take 8 rfl rfl (by kernel_rfl) (by kernel_rfl) (by kernel_rfl) exacts_nil (pu_fieldAddr_ptr rfl rfl fo_72_3) ?_
                | refine sa_take 8 rfl rfl (by kernel_rfl) (by kernel_rfl) (by kernel_rfl) exacts_nil (pu_fieldAddr_rp rfl rfl fo_72_3) ?_
                | refine sa_take 8 rfl rfl (by kernel_rfl) (by kernel_rfl) (by kernel_rfl) exacts_nil (pu_fieldAddr_ref rfl rfl fo_72_3) ?_
              refine sa_one 9 (by kernel_rfl) rfl ?_
              first
                | refine sl_st rfl rfl rfl rfl sz_70 rfl rfl rfl (Nat.le_of_ble_eq_true rfl) ?_
                | (refine sl_f1 ?_; refine sl_st rfl rfl rfl rfl sz_70 rfl rfl rfl (Nat.le_of_ble_eq_true rfl) ?_)
                | (refine sl_f2 ?_; refine sl_st rfl rfl rfl rfl sz_70 rfl rfl rfl (Nat.le_of_ble_eq_true rfl) ?_)
                | (refine sl_f3 ?_; refine sl_st rfl rfl rfl rfl sz_70 rfl rfl rfl (Nat.le_of_ble_eq_true rfl) ?_)
                | (refine sl_f4 ?_; refine sl_st rfl rfl rfl rfl sz_70 rfl rfl rfl (Nat.le_of_ble_eq_true rfl) ?_)
                | (refine sl_f5 ?_; refine sl_st rfl rfl rfl rfl sz_70 rfl rfl rfl (Nat.le_of_ble_eq_true rfl) ?_)
                | (refine sl_f6 ?_; refine sl_st rfl rfl rfl rfl sz_70 rfl rfl rfl (Nat.le_of_ble_eq_true rfl) ?_)
              refine sl_nil ⟨exacts_nil, ?_⟩
              refine sa_done (by kernel_rfl) ?_
              refine sl_region ?_
              first
                | refine sl_inc rfl rfl rfl rfl (by omega) ?_
                | refine sl_add rfl rfl rfl rfl (by constructor <;> omega) ?_
                | refine sl_bin rfl rfl rfl rfl rfl ?_
              refine sl_mv rfl rfl rfl ?_
              refine sl_nil ?_
              refine ⟨_, by omega, _, _, ?_, ?_, j2 + 1, v41, _, s7, rfl, rfl, rfl, rfl, by omega, many_succ hout2 (out_nmd (st := some s5) (st1 := some s6) (st2 := some s7) h6 h7), by have := decT_len h6; have := decV_len h7; omega, by rw [List.length_append]; simp; omega⟩
              · refine ⟨rfl, ?_⟩; repeat (first | exact WkL.nil | refine WkL.cons (Weak.refl _) ?_ | refine WkL.cons (Weak.toV rfl) ?_ | refine WkL.cons (Weak.ref _) ?_ | refine WkL.cons (Weak.rp_agg _) ?_)
              · repeat (first | exact Sub.refl _ | exact Sub.none _ | refine Sub.p0 ?_ | refine Sub.p1 ?_ | refine Sub.p2 ?_ | refine Sub.p3 ?_ | refine Sub.p4 ?_ | refine Sub.p5 ?_ | refine Sub.p6 ?_ | refine Sub.drop ?_)
        · have hj1 : j2 = n2 := by have := of_decide_eq_false hj; omega
          subst hj1
          refine sw_exit ?_
          refine sw_seq ?_
          refine sl_region ?_
          first
            | refine sl_load_rpn rfl rfl rfl ag_72 sz_72 (Nat.le_of_ble_eq_true rfl) ?_
            | refine sl_load_blkn rfl rfl rfl ag_72 sz_72 (by first | exact List.Mem.head _ | exact List.Mem.tail _ (List.Mem.head _) | exact List.Mem.tail _ (List.Mem.tail _ (List.Mem.head _)) | exact List.Mem.tail _ (List.Mem.tail _ (List.Mem.tail _ (List.Mem.head _))) | exact List.Mem.tail _ (List.Mem.tail _ (List.Mem.tail _ (List.Mem.tail _ (List.Mem.head _)))) | exact List.Mem.tail _ (List.Mem.tail _ (List.Mem.tail _ (List.Mem.tail _ (List.Mem.tail _ (List.Mem.head _)))))) (Nat.le_of_ble_eq_true rfl) ?_
            | refine sl_load_ref rfl rfl rfl ag_72 sz_72 (Nat.le_of_ble_eq_true rfl) ?_
          first
            | refine sl_st rfl rfl rfl rfl sz_72 rfl rfl rfl (Nat.le_of_ble_eq_true rfl) ?_
            | (refine sl_f1 ?_; refine sl_st rfl rfl rfl rfl sz_72 rfl rfl rfl (Nat.le_of_ble_eq_true rfl) ?_)
            | (refine sl_f2 ?_; refine sl_st rfl rfl rfl rfl sz_72 rfl rfl rfl (Nat.le_of_ble_eq_true rfl) ?_)
            | (refine sl_f3 ?_; refine sl_st rfl rfl rfl rfl sz_72 rfl rfl rfl (Nat.le_of_ble_eq_true rfl) ?_)
            | (refine sl_f4 ?_; refine sl_st rfl rfl rfl rfl sz_72 rfl rfl rfl (Nat.le_of_ble_eq_true rfl) ?_)
            | (refine sl_f5 ?_; refine sl_st rfl rfl rfl rfl sz_72 rfl rfl rfl (Nat.le_of_ble_eq_true rfl) ?_)
            | (refine sl_f6 ?_; refine sl_st rfl rfl rfl rfl sz_72 rfl rfl rfl (Nat.le_of_ble_eq_true rfl) ?_)
          refine sl_nil ?_
          refine sw_ret ⟨rfl, _, _, ResD.weak (res_celln rfl rfl ag_72 sz_72 (by first | exact List.Mem.head _ | exact List.Mem.tail _ (List.Mem.head _) | exact List.Mem.tail _ (List.Mem.tail _ (List.Mem.head _)) | exact List.Mem.tail _ (List.Mem.tail _ (List.Mem.tail _ (List.Mem.head _))) | exact List.Mem.tail _ (List.Mem.tail _ (List.Mem.tail _ (List.Mem.tail _ (List.Mem.head _)))) | exact List.Mem.tail _ (List.Mem.tail _ (List.Mem.tail _ (List.Mem.tail _ (List.Mem.tail _ (List.Mem.head _)))))) (Nat.le_of_ble_eq_true rfl)) ((Weak.toV rfl) ), ?_, ⟨⟨al, e, i, ml⟩, s5, out_summ (st := some l) (st1 := some r2) (st2 := some s2) (st3 := some s3) (st4 := some s5) o1 h2 h3 (ml_good hc2 hout2), hs5, rfl, rfl⟩⟩
          repeat (first | exact Sub.refl _ | exact Sub.none _ | refine Sub.p0 ?_ | refine Sub.p1 ?_ | refine Sub.p2 ?_ | refine Sub.p3 ?_ | refine Sub.p4 ?_ | refine Sub.p5 ?_ | refine Sub.p6 ?_ | refine Sub.drop ?_)

end Go.Proofs.Ytioechdfghglhaa
