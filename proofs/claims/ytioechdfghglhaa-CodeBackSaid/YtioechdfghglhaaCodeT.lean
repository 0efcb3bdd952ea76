/- Walks: printed by a program of this session out of its script CodeT. -/
import Derived.Test.YtioechdfghglhaaSlT
import Derived.Test.YtioechdfghglhaaP11
import Derived.Test.YtioechdfghglhaaCodeS
import Derived.Test.YtioechdfghglhaaCodeL
import Derived.Test.YtioechdfghglhaaCodeK
namespace Go.Proofs.Ytioechdfghglhaa
set_option linter.unusedVariables false
set_option linter.unusedSimpArgs false
set_option maxRecDepth 4000
set_option maxHeartbeats 4000000
open Go Go.RowKit SL


/-- CodeReads. -/
theorem codeReads_ok (b : List UInt8) (ps : List Prt) (how : List UInt8) (hok : ∀ p ∈ ps, PrtOk p) :
    FSpec Try.prog 9 [.val (.list (b.map byteV)), .val (.list (ps.map prtV)), .val (.list (how.map byteV))] [] (fun d σ' => d = .val (.bool true) ∧ σ' = []) := by
  refine spec_of_sw Try.func9 rfl ?_
  refine sw_seq ?_
  refine sl_region ?_
  refine sl_as rfl rfl rfl ?_
  refine sl_nil ?_
  refine sw_seq ?_
  refine sw_seq ?_
  refine sl_region ?_
  refine sl_callf rfl rfl cal_15 (known2_ok []) ?_ ?_ ?_ (fun _ _ h => h.elim)
  · repeat (first | exact Weaks.nil | refine Weaks.cons (Weak.junk _) ?_ | refine Weaks.cons (Weak.refl _) ?_ | refine Weaks.cons (Weak.toV rfl) ?_ | refine Weaks.cons (Weak.ref _) ?_ | refine Weaks.cons (Weak.rp_agg _) ?_)
  · repeat (first | exact Sub.refl _ | exact Sub.none _ | refine Sub.p0 ?_ | refine Sub.p1 ?_ | refine Sub.p2 ?_ | refine Sub.p3 ?_ | refine Sub.p4 ?_ | refine Sub.p5 ?_ | refine Sub.p6 ?_ | refine Sub.drop ?_)
  rintro _ _ ⟨rfl, rfl⟩
  refine sl_not rfl rfl rfl ?_
  refine sl_nil ?_
  refine sw_false rfl (rfl) ?_
  refine sw_skip ?_
  refine sw_seq ?_
  refine sw_seq ?_
  refine sl_region ?_
  refine sl_mv rfl rfl rfl ?_
  first
    | refine sl_len rfl rfl rfl ⟨_, u_26⟩ ?_
    | refine sl_len_sl rfl rfl rfl ⟨_, u_26⟩ ?_
  refine sl_bin rfl rfl rfl rfl rfl ?_
  refine sl_mv rfl rfl rfl ?_
  refine sl_case_at 17 rfl (fun g1 => ?_) (fun g1 => ?_)
  · refine sl_guard_n rfl rfl rfl g1 ?_
    refine sl_guard_n rfl rfl rfl g1 ?_
    refine sl_guard_n rfl rfl rfl g1 ?_
    refine sl_pk_t rfl rfl rfl g1 rfl ?_
    refine sl_mv rfl rfl rfl ?_
    refine sl_guard_n rfl rfl rfl (rfl) ?_
    refine sl_guard_n rfl rfl rfl (rfl) ?_
    refine sl_guard_n rfl rfl rfl (rfl) ?_
    refine sl_pk_t rfl rfl rfl (rfl) rfl ?_
    refine sl_nil ?_
    refine sw_true rfl (rfl) ?_
    refine sw_seq ?_
    refine sl_region ?_
    refine sl_as rfl rfl rfl ?_
    refine sl_nil ?_
    refine sw_ret ⟨rfl, _, _, res_one rfl rfl, ?_, ⟨rfl, rfl⟩⟩
    repeat (first | exact Sub.refl _ | exact Sub.none _ | refine Sub.p0 ?_ | refine Sub.p1 ?_ | refine Sub.p2 ?_ | refine Sub.p3 ?_ | refine Sub.p4 ?_ | refine Sub.p5 ?_ | refine Sub.p6 ?_ | refine Sub.drop ?_)
  · refine sl_guard_y rfl rfl rfl g1 ?_
    refine sl_mv rfl rfl rfl ?_
    refine sl_guard_y rfl rfl rfl g1 ?_
    first
      | refine sl_len rfl rfl rfl ⟨_, u_26⟩ ?_
      | refine sl_len_sl rfl rfl rfl ⟨_, u_26⟩ ?_
    refine sl_guard_y rfl rfl rfl g1 ?_
    refine sl_bin rfl rfl rfl rfl rfl ?_
    refine sl_pk_f rfl rfl rfl g1 rfl ?_
    refine sl_mv rfl rfl rfl ?_
    refine sl_case_at 22 rfl (fun g2 => ?_) (fun g2 => ?_)
    · refine sl_guard_n rfl rfl rfl g2 ?_
      refine sl_guard_n rfl rfl rfl g2 ?_
      refine sl_guard_n rfl rfl rfl g2 ?_
      refine sl_pk_t rfl rfl rfl g2 rfl ?_
      refine sl_nil ?_
      refine sw_true rfl (rfl) ?_
      refine sw_seq ?_
      refine sl_region ?_
      refine sl_as rfl rfl rfl ?_
      refine sl_nil ?_
      refine sw_ret ⟨rfl, _, _, res_one rfl rfl, ?_, ⟨rfl, rfl⟩⟩
      repeat (first | exact Sub.refl _ | exact Sub.none _ | refine Sub.p0 ?_ | refine Sub.p1 ?_ | refine Sub.p2 ?_ | refine Sub.p3 ?_ | refine Sub.p4 ?_ | refine Sub.p5 ?_ | refine Sub.p6 ?_ | refine Sub.drop ?_)
    · refine sl_guard_y rfl rfl rfl g2 ?_
      refine sl_mv rfl rfl rfl ?_
      refine sl_guard_y rfl rfl rfl g2 ?_
      refine sl_callf rfl rfl cal_35 (light_ok ps []) ?_ ?_ ?_ (fun _ _ h => h.elim)
      · repeat (first | exact Weaks.nil | refine Weaks.cons (Weak.junk _) ?_ | refine Weaks.cons (Weak.refl _) ?_ | refine Weaks.cons (Weak.toV rfl) ?_ | refine Weaks.cons (Weak.ref _) ?_ | refine Weaks.cons (Weak.rp_agg _) ?_)
      · repeat (first | exact Sub.refl _ | exact Sub.none _ | refine Sub.p0 ?_ | refine Sub.p1 ?_ | refine Sub.p2 ?_ | refine Sub.p3 ?_ | refine Sub.p4 ?_ | refine Sub.p5 ?_ | refine Sub.p6 ?_ | refine Sub.drop ?_)
      rintro _ _ ⟨bb, rfl, hb, rfl⟩
      refine sl_guard_y rfl rfl rfl g2 ?_
      refine sl_not rfl rfl rfl ?_
      refine sl_pk_f rfl rfl rfl g2 rfl ?_
      refine sl_nil ?_
      refine sw_cond rfl (fun hnl => ?_) (fun hnl => ?_)
      · refine sw_seq ?_
        refine sl_region ?_
        refine sl_as rfl rfl rfl ?_
        refine sl_nil ?_
        refine sw_ret ⟨rfl, _, _, res_one rfl rfl, ?_, ⟨rfl, rfl⟩⟩
        repeat (first | exact Sub.refl _ | exact Sub.none _ | refine Sub.p0 ?_ | refine Sub.p1 ?_ | refine Sub.p2 ?_ | refine Sub.p3 ?_ | refine Sub.p4 ?_ | refine Sub.p5 ?_ | refine Sub.p6 ?_ | refine Sub.drop ?_)
      · obtain ⟨hn, hlt⟩ := hb (by simpa using hnl)
        have hb5 : b.length ≤ 500 := by have := of_decide_eq_false g1; rw [List.length_map] at this; omega
        have hh : how.length ≤ 30 := by have := of_decide_eq_false g2; rw [List.length_map] at this; omega
        refine sw_skip ?_
        refine sw_seq ?_
        refine sw_seq ?_
        refine sl_region ?_
        refine sl_as rfl rfl rfl ?_
        refine sl_nil ?_
        refine sw_block ?_
        refine sw_loopw (fun nX sX δX σX => ∃ (k : Nat) (m : List UInt8), (ps.length - k) = nX ∧ sX = ⟨112, (.cons 0 (.val (.list (m.map byteV))) (.cons 1 (.val (.list (ps.map prtV))) (.cons 2 (.val (.list (how.map byteV))) (.cons 7 (.val (.int .i64 (k : Int))) .nil))))⟩ ∧ δX = [] ∧ σX = [] ∧ k ≤ ps.length ∧ m = b ++ (ps.take k).flatMap encPart) ?_ ?_
        · refine ⟨_, _, _, ?_, ?_, 0, b, rfl, rfl, rfl, rfl, Nat.zero_le _, by simp⟩
          · refine ⟨rfl, ?_⟩; repeat (first | exact WkL.nil | refine WkL.cons (Weak.refl _) ?_ | refine WkL.cons (Weak.toV rfl) ?_ | refine WkL.cons (Weak.ref _) ?_ | refine WkL.cons (Weak.rp_agg _) ?_)
          · repeat (first | exact Sub.refl _ | exact Sub.none _ | refine Sub.p0 ?_ | refine Sub.p1 ?_ | refine Sub.p2 ?_ | refine Sub.p3 ?_ | refine Sub.p4 ?_ | refine Sub.p5 ?_ | refine Sub.p6 ?_ | refine Sub.drop ?_)
        · rintro nX sX δX σX ⟨k, m, rfl, rfl, rfl, rfl, hk0, hm0⟩
          refine sw_seq ?_
          refine sw_seq ?_
          refine sl_region ?_
          refine sl_mv rfl rfl rfl ?_
          refine sl_mv rfl rfl rfl ?_
          first
            | refine sl_len rfl rfl rfl ⟨_, u_64⟩ ?_
            | refine sl_len_sl rfl rfl rfl ⟨_, u_64⟩ ?_
          refine sl_bin rfl rfl rfl rfl rfl ?_
          refine sl_nil ?_
          refine sw_cond rfl (fun hk => ?_) (fun hk => ?_)
          · have hk : k < ps.length := by simpa using hk
            have hok1 := hok ps[k] (List.getElem_mem hk)
            have hlt1 := hlt ps[k] (List.getElem_mem hk)
            have hml : m.length ≤ 20000 := by
              have := flat_len (f := encPart) (c := 1100) (ns := ps) (fun p hp => encPart_len (hok p hp) (hlt p hp)) k
              rw [hm0]; simp only [List.length_append]; omega
            have e8 : m ++ encPart ps[k] = b ++ (ps.take (k + 1)).flatMap encPart := by rw [flat_snoc hk, hm0]
            refine sw_skip ?_
            refine sw_seq ?_
            refine sw_block ?_
            refine sa_start [] mixed ?_
            refine sa_take 0 rfl rfl (by kernel_rfl) (by kernel_rfl) (by kernel_rfl) exacts_nil (pu_mv rfl rfl) ?_
            refine sa_take 1 rfl rfl (by kernel_rfl) (by kernel_rfl) (by kernel_rfl) exacts_nil (pu_mv rfl rfl) ?_
            first
              | refine sa_take 2 rfl rfl (by kernel_rfl) (by kernel_rfl) (by kernel_rfl) exacts_nil (pu_len rfl rfl ⟨_, u_26⟩) ?_
              | refine sa_take 2 rfl rfl (by kernel_rfl) (by kernel_rfl) (by kernel_rfl) exacts_nil (pu_len_sl rfl rfl ⟨_, u_26⟩) ?_
            refine sa_take 3 rfl rfl (by kernel_rfl) (by kernel_rfl) (by kernel_rfl) exacts_nil (pu_mv rfl rfl) ?_
            first
              | refine sa_take 4 rfl rfl (by kernel_rfl) (by kernel_rfl) (by kernel_rfl) exacts_nil (pu_len rfl rfl ⟨_, u_26⟩) ?_
              | refine sa_take 4 rfl rfl (by kernel_rfl) (by kernel_rfl) (by kernel_rfl) exacts_nil (pu_len_sl rfl rfl ⟨_, u_26⟩) ?_
            refine sa_take 6 rfl rfl (by kernel_rfl) (by kernel_rfl) (by kernel_rfl) exacts_nil (pu_mv rfl rfl) ?_
            refine sa_take 7 rfl rfl (by kernel_rfl) (by kernel_rfl) (by kernel_rfl) exacts_nil (pu_mv rfl rfl) ?_
            refine sa_take 8 rfl rfl (by kernel_rfl) (by kernel_rfl) (by kernel_rfl) exacts_nil (pu_indexAddr rfl rfl rfl u_64 sz_74 (by omega) (idx_map hk) rfl) ?_
            refine sa_take 9 rfl rfl (by kernel_rfl) (by kernel_rfl) (by kernel_rfl) exacts_nil (pu_load_rpn rfl rfl ag_74 sz_74 (Nat.le_of_ble_eq_true rfl)) ?_
            refine sa_one 5 (by kernel_rfl) rfl ?_
            refine sl_slice_full (m.map byteV).length rfl rfl rfl u_26 sz_5 (fun x hx => ((show Sized _ _ by repeat (first | exact sized_nil | exact sized_map (fun _ => ⟨rfl, rfl⟩) | refine sized_cons rfl rfl ?_ | refine sized_append ?_ ?_ | assumption)) x hx).1) rfl rfl (Nat.le_refl _) ?_
            refine sl_nil ⟨exacts_nil, ?_⟩
            refine sa_own (t := 38) (sz := 1) rfl (fun w0 => ?_)
            refine sa_set 38 (.own w0 (m.map byteV)) (congrArg (D.own w0) (List.take_length ..)) ?_
            refine sa_one 10 (by kernel_rfl) rfl ?_
            refine sl_callf rfl rfl cal_36 (put_ok w0 m ps[k] [] hok1 hlt1 (by omega)) ?_ ?_ ?_ (fun _ _ h => h.elim)
            · repeat (first | exact Weaks.nil | refine Weaks.cons (Weak.junk _) ?_ | refine Weaks.cons (Weak.refl _) ?_ | refine Weaks.cons (Weak.toV rfl) ?_ | refine Weaks.cons (Weak.ref _) ?_ | refine Weaks.cons (Weak.rp_agg _) ?_)
            · repeat (first | exact Sub.refl _ | exact Sub.none _ | refine Sub.p0 ?_ | refine Sub.p1 ?_ | refine Sub.p2 ?_ | refine Sub.p3 ?_ | refine Sub.p4 ?_ | refine Sub.p5 ?_ | refine Sub.p6 ?_ | refine Sub.drop ?_)
            rintro _ _ ⟨u2, rfl, rfl⟩
            refine sl_nil ⟨exacts_nil, ?_⟩
            refine sa_one 11 (by kernel_rfl) rfl ?_
            refine sl_as rfl rfl rfl ?_
            refine sl_nil ⟨exacts_nil, ?_⟩
            refine sa_done (by kernel_rfl) ?_
            refine sl_region ?_
            refine sl_mv rfl rfl rfl ?_
            first
              | refine sl_inc rfl rfl rfl rfl (by omega) ?_
              | refine sl_add rfl rfl rfl rfl (by constructor <;> omega) ?_
              | refine sl_bin rfl rfl rfl rfl rfl ?_
            refine sl_as rfl rfl rfl ?_
            refine sl_nil ?_
            refine ⟨_, by omega, _, _, ?_, ?_, k + 1, _, rfl, rfl, rfl, rfl, by omega, e8⟩
            · refine ⟨rfl, ?_⟩; repeat (first | exact WkL.nil | refine WkL.cons (Weak.refl _) ?_ | refine WkL.cons (Weak.toV rfl) ?_ | refine WkL.cons (Weak.ref _) ?_ | refine WkL.cons (Weak.rp_agg _) ?_)
            · repeat (first | exact Sub.refl _ | exact Sub.none _ | refine Sub.p0 ?_ | refine Sub.p1 ?_ | refine Sub.p2 ?_ | refine Sub.p3 ?_ | refine Sub.p4 ?_ | refine Sub.p5 ?_ | refine Sub.p6 ?_ | refine Sub.drop ?_)
          · have hk : k = ps.length := by have h9 : ¬ k < ps.length := (by simpa using hk); omega
            subst hk
            rw [List.take_length] at hm0
            have hml : m.length ≤ 20000 := by
              have := flat_allc (f := encPart) (c := 1100) (ns := ps) (fun p hp => encPart_len (hok p hp) (hlt p hp))
              rw [hm0]; simp only [List.length_append]; omega
            refine sw_exit ?_
            refine sw_seq ?_
            refine sl_region ?_
            refine sl_mv rfl rfl rfl ?_
            refine sl_callf rfl rfl cal_18 (newReader_ok m [] (by omega)) ?_ ?_ ?_ (fun _ _ h => h.elim)
            · repeat (first | exact Weaks.nil | refine Weaks.cons (Weak.junk _) ?_ | refine Weaks.cons (Weak.refl _) ?_ | refine Weaks.cons (Weak.toV rfl) ?_ | refine Weaks.cons (Weak.ref _) ?_ | refine Weaks.cons (Weak.rp_agg _) ?_)
            · repeat (first | exact Sub.refl _ | exact Sub.none _ | refine Sub.p0 ?_ | refine Sub.p1 ?_ | refine Sub.p2 ?_ | refine Sub.p3 ?_ | refine Sub.p4 ?_ | refine Sub.p5 ?_ | refine Sub.p6 ?_ | refine Sub.drop ?_)
            rintro _ _ ⟨q, rfl, rfl⟩
            refine sl_mv rfl rfl rfl ?_
            refine sl_bd rfl rfl (.cons rfl .nil) bi_80 zd_80 rfl ?_
            refine sl_bx rfl rfl rfl rfl (fun b48 => ?_)
            refine sl_as rfl rfl rfl ?_
            refine sl_as rfl rfl rfl ?_
            refine sl_nil ?_
            refine sw_seq ?_
            refine sw_seq ?_
            refine sl_region ?_
            refine sl_as rfl rfl rfl ?_
            refine sl_nil ?_
            refine sw_block ?_
            refine sw_loopw (fun nX sX δX σX => ∃ (i : Nat) (st : Option (List UInt8)) (c c2 : Chunk), (how.length - i) = nX ∧ sX = ⟨112, (.cons 2 (.val (.list (how.map byteV))) (.cons 8 (.ptr q 0) (.cons 9 (.ptr b48 0) (.cons 10 (.val (.int .i64 (i : Int))) .nil))))⟩ ∧ δX = [] ∧ σX = c :: c2 :: [] ∧ i ≤ how.length ∧ Rdr q st c ∧ Rdr b48 st c2) ?_ ?_
            · refine ⟨_, _, _, ?_, ?_, 0, some m, _, _, rfl, rfl, rfl, rfl, Nat.zero_le _, ⟨rfl, by omega⟩, ⟨rfl, by omega⟩⟩
              · refine ⟨rfl, ?_⟩; repeat (first | exact WkL.nil | refine WkL.cons (Weak.refl _) ?_ | refine WkL.cons (Weak.toV rfl) ?_ | refine WkL.cons (Weak.ref _) ?_ | refine WkL.cons (Weak.rp_agg _) ?_)
              · repeat (first | exact Sub.refl _ | exact Sub.none _ | refine Sub.p0 ?_ | refine Sub.p1 ?_ | refine Sub.p2 ?_ | refine Sub.p3 ?_ | refine Sub.p4 ?_ | refine Sub.p5 ?_ | refine Sub.p6 ?_ | refine Sub.drop ?_)
            · rintro nX sX δX σX ⟨i, st, c, c2, rfl, rfl, rfl, rfl, hi, h1, h2⟩
              refine sw_seq ?_
              refine sw_seq ?_
              refine sl_region ?_
              refine sl_mv rfl rfl rfl ?_
              refine sl_mv rfl rfl rfl ?_
              first
                | refine sl_len rfl rfl rfl ⟨_, u_26⟩ ?_
                | refine sl_len_sl rfl rfl rfl ⟨_, u_26⟩ ?_
              refine sl_bin rfl rfl rfl rfl rfl ?_
              refine sl_nil ?_
              refine sw_cond rfl (fun hj => ?_) (fun hj => ?_)
              · have hj1 : i < how.length := by simpa using hj
                refine sw_skip ?_
                refine sw_seq ?_
                refine sw_block ?_
                refine sw_seq ?_
                refine sl_region ?_
                refine sl_as rfl rfl rfl ?_
                refine sl_nil ?_
                refine sw_seq ?_
                refine sw_seq ?_
                refine sl_region ?_
                refine sl_mv rfl rfl rfl ?_
                refine sl_mv rfl rfl rfl ?_
                refine sl_indexAddr' rfl rfl rfl rfl u_26 sz_5 (by omega) (idx_map hj1) rfl ?_
                first
                  | refine sl_load_rp1 rfl rfl rfl ag_5 rfl ?_
                  | refine sl_load_blk1 rfl rfl rfl ag_5 (by first | exact List.Mem.head _ | exact List.Mem.tail _ (List.Mem.head _) | exact List.Mem.tail _ (List.Mem.tail _ (List.Mem.head _)) | exact List.Mem.tail _ (List.Mem.tail _ (List.Mem.tail _ (List.Mem.head _))) | exact List.Mem.tail _ (List.Mem.tail _ (List.Mem.tail _ (List.Mem.tail _ (List.Mem.head _)))) | exact List.Mem.tail _ (List.Mem.tail _ (List.Mem.tail _ (List.Mem.tail _ (List.Mem.tail _ (List.Mem.head _)))))) rfl ?_
                refine sl_rem rfl rfl rfl rfl (by decide) ?_
                refine sl_set 59 (.val (.int .u8 ((how[i].toNat % 5 : Nat) : Int))) (rem5 how[i]) ?_
                refine sl_nil ?_
                refine sw_block ?_
                refine sw_seq ?_
                refine sl_region ?_
                refine sl_bin rfl rfl rfl rfl rfl ?_
                refine sl_as rfl rfl rfl ?_
                refine sl_nil ?_
                refine sw_cond rfl (fun h0 => ?_) (fun h0 => ?_)
                · refine sl_region ?_
                  refine sl_mv rfl rfl rfl ?_
                  refine sl_callf rfl rfl cal_33 (pNum_ok q st c (c2 :: []) h1) ?_ ?_ ?_ (fun _ _ h => h.elim)
                  · repeat (first | exact Weaks.nil | refine Weaks.cons (Weak.junk _) ?_ | refine Weaks.cons (Weak.refl _) ?_ | refine Weaks.cons (Weak.toV rfl) ?_ | refine Weaks.cons (Weak.ref _) ?_ | refine Weaks.cons (Weak.rp_agg _) ?_)
                  · repeat (first | exact Sub.refl _ | exact Sub.none _ | refine Sub.p0 ?_ | refine Sub.p1 ?_ | refine Sub.p2 ?_ | refine Sub.p3 ?_ | refine Sub.p4 ?_ | refine Sub.p5 ?_ | refine Sub.p6 ?_ | refine Sub.drop ?_)
                  rintro _ _ ⟨rfl, c3, h3, rfl⟩
                  refine sl_mv rfl rfl rfl ?_
                  refine sl_callf rfl rfl cal_40 (ynum_ok b48 st c2 (c3 :: []) h2) ?_ ?_ ?_ (fun _ _ h => h.elim)
                  · repeat (first | exact Weaks.nil | refine Weaks.cons (Weak.junk _) ?_ | refine Weaks.cons (Weak.refl _) ?_ | refine Weaks.cons (Weak.toV rfl) ?_ | refine Weaks.cons (Weak.ref _) ?_ | refine Weaks.cons (Weak.rp_agg _) ?_)
                  · repeat (first | exact Sub.refl _ | exact Sub.none _ | refine Sub.p0 ?_ | refine Sub.p1 ?_ | refine Sub.p2 ?_ | refine Sub.p3 ?_ | refine Sub.p4 ?_ | refine Sub.p5 ?_ | refine Sub.p6 ?_ | refine Sub.drop ?_)
                  rintro _ _ ⟨rfl, c4, h4, rfl⟩
                  refine sl_bin rfl rfl rfl rfl rfl ?_
                  refine sl_set 71 (.val (.bool true)) (self_u64 _) ?_
                  refine sl_as rfl rfl rfl ?_
                  refine sl_nil ?_
                  refine sw_seq ?_
                  refine sl_region ?_
                  refine sl_mv rfl rfl rfl ?_
                  refine sl_not rfl rfl rfl ?_
                  refine sl_nil ?_
                  refine sw_false rfl (rfl) ?_
                  refine sw_skip ?_
                  refine sl_region ?_
                  refine sl_mv rfl rfl rfl ?_
                  first
                    | refine sl_inc rfl rfl rfl rfl (by omega) ?_
                    | refine sl_add rfl rfl rfl rfl (by constructor <;> omega) ?_
                    | refine sl_bin rfl rfl rfl rfl rfl ?_
                  refine sl_as rfl rfl rfl ?_
                  refine sl_nil ?_
                  refine ⟨_, by omega, _, _, ?_, ?_, i + 1, _, c3, c4, rfl, rfl, rfl, rfl, by omega, h3, h4⟩
                  · refine ⟨rfl, ?_⟩; repeat (first | exact WkL.nil | refine WkL.cons (Weak.refl _) ?_ | refine WkL.cons (Weak.toV rfl) ?_ | refine WkL.cons (Weak.ref _) ?_ | refine WkL.cons (Weak.rp_agg _) ?_)
                  · repeat (first | exact Sub.refl _ | exact Sub.none _ | refine Sub.p0 ?_ | refine Sub.p1 ?_ | refine Sub.p2 ?_ | refine Sub.p3 ?_ | refine Sub.p4 ?_ | refine Sub.p5 ?_ | refine Sub.p6 ?_ | refine Sub.drop ?_)
                · refine sw_seq ?_
                  refine sl_region ?_
                  refine sl_bin rfl rfl rfl rfl rfl ?_
                  refine sl_as rfl rfl rfl ?_
                  refine sl_nil ?_
                  refine sw_cond rfl (fun h0b => ?_) (fun h0b => ?_)
                  · refine sl_region ?_
                    refine sl_mv rfl rfl rfl ?_
                    refine sl_callf rfl rfl cal_20 (pInt_ok q st c (c2 :: []) h1) ?_ ?_ ?_ (fun _ _ h => h.elim)
                    · repeat (first | exact Weaks.nil | refine Weaks.cons (Weak.junk _) ?_ | refine Weaks.cons (Weak.refl _) ?_ | refine Weaks.cons (Weak.toV rfl) ?_ | refine Weaks.cons (Weak.ref _) ?_ | refine Weaks.cons (Weak.rp_agg _) ?_)
                    · repeat (first | exact Sub.refl _ | exact Sub.none _ | refine Sub.p0 ?_ | refine Sub.p1 ?_ | refine Sub.p2 ?_ | refine Sub.p3 ?_ | refine Sub.p4 ?_ | refine Sub.p5 ?_ | refine Sub.p6 ?_ | refine Sub.drop ?_)
                    rintro _ _ ⟨rfl, c3, h3, rfl⟩
                    refine sl_mv rfl rfl rfl ?_
                    refine sl_callf rfl rfl cal_41 (whole_ok b48 st c2 (c3 :: []) h2) ?_ ?_ ?_ (fun _ _ h => h.elim)
                    · repeat (first | exact Weaks.nil | refine Weaks.cons (Weak.junk _) ?_ | refine Weaks.cons (Weak.refl _) ?_ | refine Weaks.cons (Weak.toV rfl) ?_ | refine Weaks.cons (Weak.ref _) ?_ | refine Weaks.cons (Weak.rp_agg _) ?_)
                    · repeat (first | exact Sub.refl _ | exact Sub.none _ | refine Sub.p0 ?_ | refine Sub.p1 ?_ | refine Sub.p2 ?_ | refine Sub.p3 ?_ | refine Sub.p4 ?_ | refine Sub.p5 ?_ | refine Sub.p6 ?_ | refine Sub.drop ?_)
                    rintro _ _ ⟨rfl, c4, h4, rfl⟩
                    refine sl_bin rfl rfl rfl rfl rfl ?_
                    refine sl_set 78 (.val (.bool true)) (self_i64 _) ?_
                    refine sl_as rfl rfl rfl ?_
                    refine sl_nil ?_
                    refine sw_seq ?_
                    refine sl_region ?_
                    refine sl_mv rfl rfl rfl ?_
                    refine sl_not rfl rfl rfl ?_
                    refine sl_nil ?_
                    refine sw_false rfl (rfl) ?_
                    refine sw_skip ?_
                    refine sl_region ?_
                    refine sl_mv rfl rfl rfl ?_
                    first
                      | refine sl_inc rfl rfl rfl rfl (by omega) ?_
                      | refine sl_add rfl rfl rfl rfl (by constructor <;> omega) ?_
                      | refine sl_bin rfl rfl rfl rfl rfl ?_
                    refine sl_as rfl rfl rfl ?_
                    refine sl_nil ?_
                    refine ⟨_, by omega, _, _, ?_, ?_, i + 1, _, c3, c4, rfl, rfl, rfl, rfl, by omega, h3, h4⟩
                    · refine ⟨rfl, ?_⟩; repeat (first | exact WkL.nil | refine WkL.cons (Weak.refl _) ?_ | refine WkL.cons (Weak.toV rfl) ?_ | refine WkL.cons (Weak.ref _) ?_ | refine WkL.cons (Weak.rp_agg _) ?_)
                    · repeat (first | exact Sub.refl _ | exact Sub.none _ | refine Sub.p0 ?_ | refine Sub.p1 ?_ | refine Sub.p2 ?_ | refine Sub.p3 ?_ | refine Sub.p4 ?_ | refine Sub.p5 ?_ | refine Sub.p6 ?_ | refine Sub.drop ?_)
                  · refine sw_seq ?_
                    refine sl_region ?_
                    refine sl_bin rfl rfl rfl rfl rfl ?_
                    refine sl_as rfl rfl rfl ?_
                    refine sl_nil ?_
                    refine sw_cond rfl (fun h0c => ?_) (fun h0c => ?_)
                    · refine sl_region ?_
                      refine sl_mv rfl rfl rfl ?_
                      refine sl_callf rfl rfl cal_32 (pText_ok q st c (c2 :: []) h1) ?_ ?_ ?_ (fun _ _ h => h.elim)
                      · repeat (first | exact Weaks.nil | refine Weaks.cons (Weak.junk _) ?_ | refine Weaks.cons (Weak.refl _) ?_ | refine Weaks.cons (Weak.toV rfl) ?_ | refine Weaks.cons (Weak.ref _) ?_ | refine Weaks.cons (Weak.rp_agg _) ?_)
                      · repeat (first | exact Sub.refl _ | exact Sub.none _ | refine Sub.p0 ?_ | refine Sub.p1 ?_ | refine Sub.p2 ?_ | refine Sub.p3 ?_ | refine Sub.p4 ?_ | refine Sub.p5 ?_ | refine Sub.p6 ?_ | refine Sub.drop ?_)
                      rintro _ _ ⟨rfl, c3, h3, rfl⟩
                      refine sl_mv rfl rfl rfl ?_
                      refine sl_callf rfl rfl cal_42 (ytext_ok b48 st c2 (c3 :: []) h2) ?_ ?_ ?_ (fun _ _ h => h.elim)
                      · repeat (first | exact Weaks.nil | refine Weaks.cons (Weak.junk _) ?_ | refine Weaks.cons (Weak.refl _) ?_ | refine Weaks.cons (Weak.toV rfl) ?_ | refine Weaks.cons (Weak.ref _) ?_ | refine Weaks.cons (Weak.rp_agg _) ?_)
                      · repeat (first | exact Sub.refl _ | exact Sub.none _ | refine Sub.p0 ?_ | refine Sub.p1 ?_ | refine Sub.p2 ?_ | refine Sub.p3 ?_ | refine Sub.p4 ?_ | refine Sub.p5 ?_ | refine Sub.p6 ?_ | refine Sub.drop ?_)
                      rintro _ _ ⟨rfl, c4, h4, rfl⟩
                      refine sl_str rfl rfl rfl rfl rfl ?_
                      refine sl_set 85 (.val (.bool true)) (self_str _) ?_
                      refine sl_as rfl rfl rfl ?_
                      refine sl_nil ?_
                      refine sw_seq ?_
                      refine sl_region ?_
                      refine sl_mv rfl rfl rfl ?_
                      refine sl_not rfl rfl rfl ?_
                      refine sl_nil ?_
                      refine sw_false rfl (rfl) ?_
                      refine sw_skip ?_
                      refine sl_region ?_
                      refine sl_mv rfl rfl rfl ?_
                      first
                        | refine sl_inc rfl rfl rfl rfl (by omega) ?_
                        | refine sl_add rfl rfl rfl rfl (by constructor <;> omega) ?_
                        | refine sl_bin rfl rfl rfl rfl rfl ?_
                      refine sl_as rfl rfl rfl ?_
                      refine sl_nil ?_
                      refine ⟨_, by omega, _, _, ?_, ?_, i + 1, _, c3, c4, rfl, rfl, rfl, rfl, by omega, h3, h4⟩
                      · refine ⟨rfl, ?_⟩; repeat (first | exact WkL.nil | refine WkL.cons (Weak.refl _) ?_ | refine WkL.cons (Weak.toV rfl) ?_ | refine WkL.cons (Weak.ref _) ?_ | refine WkL.cons (Weak.rp_agg _) ?_)
                      · repeat (first | exact Sub.refl _ | exact Sub.none _ | refine Sub.p0 ?_ | refine Sub.p1 ?_ | refine Sub.p2 ?_ | refine Sub.p3 ?_ | refine Sub.p4 ?_ | refine Sub.p5 ?_ | refine Sub.p6 ?_ | refine Sub.drop ?_)
                    · refine sw_seq ?_
                      refine sl_region ?_
                      refine sl_bin rfl rfl rfl rfl rfl ?_
                      refine sl_as rfl rfl rfl ?_
                      refine sl_nil ?_
                      refine sw_cond rfl (fun h0d => ?_) (fun h0d => ?_)
                      · refine sl_region ?_
                        refine sl_mv rfl rfl rfl ?_
                        refine sl_callf rfl rfl cal_34 (pBool_ok q st c (c2 :: []) h1) ?_ ?_ ?_ (fun _ _ h => h.elim)
                        · repeat (first | exact Weaks.nil | refine Weaks.cons (Weak.junk _) ?_ | refine Weaks.cons (Weak.refl _) ?_ | refine Weaks.cons (Weak.toV rfl) ?_ | refine Weaks.cons (Weak.ref _) ?_ | refine Weaks.cons (Weak.rp_agg _) ?_)
                        · repeat (first | exact Sub.refl _ | exact Sub.none _ | refine Sub.p0 ?_ | refine Sub.p1 ?_ | refine Sub.p2 ?_ | refine Sub.p3 ?_ | refine Sub.p4 ?_ | refine Sub.p5 ?_ | refine Sub.p6 ?_ | refine Sub.drop ?_)
                        rintro _ _ ⟨rfl, c3, h3, rfl⟩
                        refine sl_mv rfl rfl rfl ?_
                        refine sl_callf rfl rfl cal_43 (ybool_ok b48 st c2 (c3 :: []) h2) ?_ ?_ ?_ (fun _ _ h => h.elim)
                        · repeat (first | exact Weaks.nil | refine Weaks.cons (Weak.junk _) ?_ | refine Weaks.cons (Weak.refl _) ?_ | refine Weaks.cons (Weak.toV rfl) ?_ | refine Weaks.cons (Weak.ref _) ?_ | refine Weaks.cons (Weak.rp_agg _) ?_)
                        · repeat (first | exact Sub.refl _ | exact Sub.none _ | refine Sub.p0 ?_ | refine Sub.p1 ?_ | refine Sub.p2 ?_ | refine Sub.p3 ?_ | refine Sub.p4 ?_ | refine Sub.p5 ?_ | refine Sub.p6 ?_ | refine Sub.drop ?_)
                        rintro _ _ ⟨rfl, c4, h4, rfl⟩
                        refine sl_bool_eq rfl rfl rfl rfl u_4 ?_
                        refine sl_set 92 (.val (.bool true)) (self_bool _) ?_
                        refine sl_as rfl rfl rfl ?_
                        refine sl_nil ?_
                        refine sw_seq ?_
                        refine sl_region ?_
                        refine sl_mv rfl rfl rfl ?_
                        refine sl_not rfl rfl rfl ?_
                        refine sl_nil ?_
                        refine sw_false rfl (rfl) ?_
                        refine sw_skip ?_
                        refine sl_region ?_
                        refine sl_mv rfl rfl rfl ?_
                        first
                          | refine sl_inc rfl rfl rfl rfl (by omega) ?_
                          | refine sl_add rfl rfl rfl rfl (by constructor <;> omega) ?_
                          | refine sl_bin rfl rfl rfl rfl rfl ?_
                        refine sl_as rfl rfl rfl ?_
                        refine sl_nil ?_
                        refine ⟨_, by omega, _, _, ?_, ?_, i + 1, _, c3, c4, rfl, rfl, rfl, rfl, by omega, h3, h4⟩
                        · refine ⟨rfl, ?_⟩; repeat (first | exact WkL.nil | refine WkL.cons (Weak.refl _) ?_ | refine WkL.cons (Weak.toV rfl) ?_ | refine WkL.cons (Weak.ref _) ?_ | refine WkL.cons (Weak.rp_agg _) ?_)
                        · repeat (first | exact Sub.refl _ | exact Sub.none _ | refine Sub.p0 ?_ | refine Sub.p1 ?_ | refine Sub.p2 ?_ | refine Sub.p3 ?_ | refine Sub.p4 ?_ | refine Sub.p5 ?_ | refine Sub.p6 ?_ | refine Sub.drop ?_)
                      · refine sl_region ?_
                        refine sl_mv rfl rfl rfl ?_
                        refine sl_callf rfl rfl cal_45 (pSumm_ok q st c (c2 :: []) h1) ?_ ?_ ?_ (fun _ _ h => h.elim)
                        · repeat (first | exact Weaks.nil | refine Weaks.cons (Weak.junk _) ?_ | refine Weaks.cons (Weak.refl _) ?_ | refine Weaks.cons (Weak.toV rfl) ?_ | refine Weaks.cons (Weak.ref _) ?_ | refine Weaks.cons (Weak.rp_agg _) ?_)
                        · repeat (first | exact Sub.refl _ | exact Sub.none _ | refine Sub.p0 ?_ | refine Sub.p1 ?_ | refine Sub.p2 ?_ | refine Sub.p3 ?_ | refine Sub.p4 ?_ | refine Sub.p5 ?_ | refine Sub.p6 ?_ | refine Sub.drop ?_)
                        rintro _ _ ⟨rfl, c3, h3, rfl⟩
                        refine sl_mv rfl rfl rfl ?_
                        refine sl_callf rfl rfl cal_46 (ysumm_ok b48 st c2 (c3 :: []) h2) ?_ ?_ ?_ (fun _ _ h => h.elim)
                        · repeat (first | exact Weaks.nil | refine Weaks.cons (Weak.junk _) ?_ | refine Weaks.cons (Weak.refl _) ?_ | refine Weaks.cons (Weak.toV rfl) ?_ | refine Weaks.cons (Weak.ref _) ?_ | refine Weaks.cons (Weak.rp_agg _) ?_)
                        · repeat (first | exact Sub.refl _ | exact Sub.none _ | refine Sub.p0 ?_ | refine Sub.p1 ?_ | refine Sub.p2 ?_ | refine Sub.p3 ?_ | refine Sub.p4 ?_ | refine Sub.p5 ?_ | refine Sub.p6 ?_ | refine Sub.drop ?_)
                        rintro _ _ ⟨s, st', c4, rfl, o4, hz, h4, rfl⟩
                        have hs := Out.rdOf o4 hz
                        have hsm := summ_small h1
                        rw [hs.1] at hsm ⊢
                        rw [hs.2] at h3
                        refine sl_callf rfl rfl cal_44 (hsumm_ok s s (c3 :: c4 :: []) hsm) ?_ ?_ ?_ (fun _ _ h => h.elim)
                        · repeat (first | exact Weaks.nil | refine Weaks.cons (Weak.junk _) ?_ | refine Weaks.cons (Weak.refl _) ?_ | refine Weaks.cons (Weak.toV rfl) ?_ | refine Weaks.cons (Weak.ref _) ?_ | refine Weaks.cons (Weak.rp_agg _) ?_)
                        · repeat (first | exact Sub.refl _ | exact Sub.none _ | refine Sub.p0 ?_ | refine Sub.p1 ?_ | refine Sub.p2 ?_ | refine Sub.p3 ?_ | refine Sub.p4 ?_ | refine Sub.p5 ?_ | refine Sub.p6 ?_ | refine Sub.drop ?_)
                        rintro _ _ ⟨rfl, rfl⟩
                        refine sl_set 64 (.val (.bool true)) (congrArg (fun b => D.val (.bool b)) (decide_eq_true rfl)) ?_
                        refine sl_as rfl rfl rfl ?_
                        refine sl_nil ?_
                        refine sw_seq ?_
                        refine sl_region ?_
                        refine sl_mv rfl rfl rfl ?_
                        refine sl_not rfl rfl rfl ?_
                        refine sl_nil ?_
                        refine sw_false rfl (rfl) ?_
                        refine sw_skip ?_
                        refine sl_region ?_
                        refine sl_mv rfl rfl rfl ?_
                        first
                          | refine sl_inc rfl rfl rfl rfl (by omega) ?_
                          | refine sl_add rfl rfl rfl rfl (by constructor <;> omega) ?_
                          | refine sl_bin rfl rfl rfl rfl rfl ?_
                        refine sl_as rfl rfl rfl ?_
                        refine sl_nil ?_
                        refine ⟨_, by omega, _, _, ?_, ?_, i + 1, _, c3, c4, rfl, rfl, rfl, rfl, by omega, h3, h4⟩
                        · refine ⟨rfl, ?_⟩; repeat (first | exact WkL.nil | refine WkL.cons (Weak.refl _) ?_ | refine WkL.cons (Weak.toV rfl) ?_ | refine WkL.cons (Weak.ref _) ?_ | refine WkL.cons (Weak.rp_agg _) ?_)
                        · repeat (first | exact Sub.refl _ | exact Sub.none _ | refine Sub.p0 ?_ | refine Sub.p1 ?_ | refine Sub.p2 ?_ | refine Sub.p3 ?_ | refine Sub.p4 ?_ | refine Sub.p5 ?_ | refine Sub.p6 ?_ | refine Sub.drop ?_)
              · refine sw_exit ?_
                refine sw_seq ?_
                rcases st with _ | l
                · obtain ⟨r, rfl⟩ := h1
                  obtain ⟨r2, rfl⟩ := h2
                  refine sw_less (σ' := rd b48 r2 true :: rd q r true :: []) (by repeat (first | exact Sub.refl _ | exact Sub.none _ | refine Sub.p0 ?_ | refine Sub.p1 ?_ | refine Sub.p2 ?_ | refine Sub.p3 ?_ | refine Sub.p4 ?_ | refine Sub.p5 ?_ | refine Sub.p6 ?_ | refine Sub.drop ?_)) ?_
                  refine sw_freeze (t := 9) (b := b48) rfl rfl ?_
                  refine sa_start [] mixed ?_
                  refine sa_take 0 rfl rfl (by kernel_rfl) (by kernel_rfl) (by kernel_rfl) exacts_nil (pu_mv rfl rfl) ?_
                  refine sa_take 3 rfl rfl (by kernel_rfl) (by kernel_rfl) (by kernel_rfl) exacts_nil (pu_mv rfl rfl) ?_
                  refine sa_take 4 rfl rfl (by kernel_rfl) (by kernel_rfl) (by kernel_rfl) exacts_nil (pu_nc rfl rfl rfl) ?_
                  first
                    | refine sa_take 5 rfl rfl (by kernel_rfl) (by kernel_rfl) (by kernel_rfl) exacts_nil (pu_fieldAddr_ptr rfl rfl fo_80_1) ?_
                    | refine sa_take 5 rfl rfl (by kernel_rfl) (by kernel_rfl) (by kernel_rfl) exacts_nil (pu_fieldAddr_rp rfl rfl fo_80_1) ?_
                    | refine sa_take 5 rfl rfl (by kernel_rfl) (by kernel_rfl) (by kernel_rfl) exacts_nil (pu_fieldAddr_ref rfl rfl fo_80_1) ?_
                  refine sa_take 6 rfl rfl (by kernel_rfl) (by kernel_rfl) (by kernel_rfl) exacts_nil (pu_load_rp1 rfl rfl ag_4 rfl) ?_
                  refine sa_take 7 rfl rfl (by kernel_rfl) (by kernel_rfl) (by kernel_rfl) exacts_nil (pu_not rfl rfl) ?_
                  refine sa_one 1 (by kernel_rfl) rfl ?_
                  refine sl_callf rfl rfl cal_21 (done_ok q none (rd q r true) [] ⟨r, rfl⟩) ?_ ?_ ?_ (fun _ _ h => h.elim)
                  · repeat (first | exact Weaks.nil | refine Weaks.cons (Weak.junk _) ?_ | refine Weaks.cons (Weak.refl _) ?_ | refine Weaks.cons (Weak.toV rfl) ?_ | refine Weaks.cons (Weak.ref _) ?_ | refine Weaks.cons (Weak.rp_agg _) ?_)
                  · repeat (first | exact Sub.refl _ | exact Sub.none _ | refine Sub.p0 ?_ | refine Sub.p1 ?_ | refine Sub.p2 ?_ | refine Sub.p3 ?_ | refine Sub.p4 ?_ | refine Sub.p5 ?_ | refine Sub.p6 ?_ | refine Sub.drop ?_)
                  rintro _ _ ⟨rfl, rfl⟩
                  refine sl_nil ⟨exacts_nil, ?_⟩
                  refine sa_take 2 rfl rfl (by kernel_rfl) (by kernel_rfl) (by kernel_rfl) exacts_nil (pu_bin rfl rfl rfl rfl) ?_
                  refine sa_take 8 rfl rfl (by kernel_rfl) (by kernel_rfl) (by kernel_rfl) exacts_nil (pu_mv rfl rfl) ?_
                  refine sa_take_n 9 rfl rfl rfl rfl (rfl) (by kernel_rfl) (by kernel_rfl) (by kernel_rfl) exacts_nil ?_
                  refine sa_take_n 10 rfl rfl rfl rfl (rfl) (by kernel_rfl) (by kernel_rfl) (by kernel_rfl) exacts_nil ?_
                  refine sa_take_n 11 rfl rfl rfl rfl (rfl) (by kernel_rfl) (by kernel_rfl) (by kernel_rfl) exacts_nil ?_
                  refine sa_take_n 12 rfl rfl rfl rfl (rfl) (by kernel_rfl) (by kernel_rfl) (by kernel_rfl) exacts_nil ?_
                  refine sa_take_n 13 rfl rfl rfl rfl (rfl) (by kernel_rfl) (by kernel_rfl) (by kernel_rfl) exacts_nil ?_
                  refine sa_take_n 14 rfl rfl rfl rfl (rfl) (by kernel_rfl) (by kernel_rfl) (by kernel_rfl) exacts_nil ?_
                  refine sa_take 15 rfl rfl (by kernel_rfl) (by kernel_rfl) (by kernel_rfl) exacts_nil (pu_pk_f rfl rfl (rfl) rfl) ?_
                  refine sa_take 16 rfl rfl (by kernel_rfl) (by kernel_rfl) (by kernel_rfl) exacts_nil (pu_bool_eq rfl rfl rfl u_4) ?_
                  refine sa_one 17 (by kernel_rfl) rfl ?_
                  refine sl_as rfl rfl rfl ?_
                  refine sl_nil ⟨exacts_nil, ?_⟩
                  refine sa_done (by kernel_rfl) ?_
                  refine sw_ret ⟨rfl, _, _, res_one rfl rfl, ?_, ⟨rfl, rfl⟩⟩
                  repeat (first | exact Sub.refl _ | exact Sub.none _ | refine Sub.p0 ?_ | refine Sub.p1 ?_ | refine Sub.p2 ?_ | refine Sub.p3 ?_ | refine Sub.p4 ?_ | refine Sub.p5 ?_ | refine Sub.p6 ?_ | refine Sub.drop ?_)
                · obtain ⟨rfl, hl⟩ := h1
                  obtain ⟨rfl, _⟩ := h2
                  refine sw_less (σ' := rd b48 l false :: rd q l false :: []) (by repeat (first | exact Sub.refl _ | exact Sub.none _ | refine Sub.p0 ?_ | refine Sub.p1 ?_ | refine Sub.p2 ?_ | refine Sub.p3 ?_ | refine Sub.p4 ?_ | refine Sub.p5 ?_ | refine Sub.p6 ?_ | refine Sub.drop ?_)) ?_
                  refine sw_freeze (t := 9) (b := b48) rfl rfl ?_
                  refine sa_start [] mixed ?_
                  refine sa_take 0 rfl rfl (by kernel_rfl) (by kernel_rfl) (by kernel_rfl) exacts_nil (pu_mv rfl rfl) ?_
                  refine sa_take 3 rfl rfl (by kernel_rfl) (by kernel_rfl) (by kernel_rfl) exacts_nil (pu_mv rfl rfl) ?_
                  refine sa_take 4 rfl rfl (by kernel_rfl) (by kernel_rfl) (by kernel_rfl) exacts_nil (pu_nc rfl rfl rfl) ?_
                  first
                    | refine sa_take 5 rfl rfl (by kernel_rfl) (by kernel_rfl) (by kernel_rfl) exacts_nil (pu_fieldAddr_ptr rfl rfl fo_80_1) ?_
                    | refine sa_take 5 rfl rfl (by kernel_rfl) (by kernel_rfl) (by kernel_rfl) exacts_nil (pu_fieldAddr_rp rfl rfl fo_80_1) ?_
                    | refine sa_take 5 rfl rfl (by kernel_rfl) (by kernel_rfl) (by kernel_rfl) exacts_nil (pu_fieldAddr_ref rfl rfl fo_80_1) ?_
                  refine sa_take 6 rfl rfl (by kernel_rfl) (by kernel_rfl) (by kernel_rfl) exacts_nil (pu_load_rp1 rfl rfl ag_4 rfl) ?_
                  refine sa_take 7 rfl rfl (by kernel_rfl) (by kernel_rfl) (by kernel_rfl) exacts_nil (pu_not rfl rfl) ?_
                  refine sa_one 1 (by kernel_rfl) rfl ?_
                  refine sl_callf rfl rfl cal_21 (done_ok q (some l) (rd q l false) [] ⟨rfl, hl⟩) ?_ ?_ ?_ (fun _ _ h => h.elim)
                  · repeat (first | exact Weaks.nil | refine Weaks.cons (Weak.junk _) ?_ | refine Weaks.cons (Weak.refl _) ?_ | refine Weaks.cons (Weak.toV rfl) ?_ | refine Weaks.cons (Weak.ref _) ?_ | refine Weaks.cons (Weak.rp_agg _) ?_)
                  · repeat (first | exact Sub.refl _ | exact Sub.none _ | refine Sub.p0 ?_ | refine Sub.p1 ?_ | refine Sub.p2 ?_ | refine Sub.p3 ?_ | refine Sub.p4 ?_ | refine Sub.p5 ?_ | refine Sub.p6 ?_ | refine Sub.drop ?_)
                  rintro _ _ ⟨rfl, rfl⟩
                  refine sl_nil ⟨exacts_nil, ?_⟩
                  refine sa_take 2 rfl rfl (by kernel_rfl) (by kernel_rfl) (by kernel_rfl) exacts_nil (pu_bin rfl rfl rfl rfl) ?_
                  refine sa_take 8 rfl rfl (by kernel_rfl) (by kernel_rfl) (by kernel_rfl) exacts_nil (pu_mv rfl rfl) ?_
                  refine sa_take_y 9 rfl rfl rfl rfl (rfl) (by kernel_rfl) (by kernel_rfl) (by kernel_rfl) exacts_nil (pu_mv rfl rfl) ?_
                  refine sa_take_y 10 rfl rfl rfl rfl (rfl) (by kernel_rfl) (by kernel_rfl) (by kernel_rfl) exacts_nil (pu_nc rfl rfl rfl) ?_
                  first
                    | refine sa_take_y 11 rfl rfl rfl rfl (rfl) (by kernel_rfl) (by kernel_rfl) (by kernel_rfl) exacts_nil (pu_fieldAddr_ptr rfl rfl fo_80_0) ?_
                    | refine sa_take_y 11 rfl rfl rfl rfl (rfl) (by kernel_rfl) (by kernel_rfl) (by kernel_rfl) exacts_nil (pu_fieldAddr_rp rfl rfl fo_80_0) ?_
                    | refine sa_take_y 11 rfl rfl rfl rfl (rfl) (by kernel_rfl) (by kernel_rfl) (by kernel_rfl) exacts_nil (pu_fieldAddr_ref rfl rfl fo_80_0) ?_
                  refine sa_take_y 12 rfl rfl rfl rfl (rfl) (by kernel_rfl) (by kernel_rfl) (by kernel_rfl) exacts_nil (pu_load_rp1 rfl rfl ag_26 rfl) ?_
                  first
                    | refine sa_take_y 13 rfl rfl rfl rfl (rfl) (by kernel_rfl) (by kernel_rfl) (by kernel_rfl) exacts_nil (pu_len rfl rfl ⟨_, u_26⟩) ?_
                    | refine sa_take_y 13 rfl rfl rfl rfl (rfl) (by kernel_rfl) (by kernel_rfl) (by kernel_rfl) exacts_nil (pu_len_sl rfl rfl ⟨_, u_26⟩) ?_
                  refine sa_take_y 14 rfl rfl rfl rfl (rfl) (by kernel_rfl) (by kernel_rfl) (by kernel_rfl) exacts_nil (pu_bin rfl rfl rfl rfl) ?_
                  refine sa_take 15 rfl rfl (by kernel_rfl) (by kernel_rfl) (by kernel_rfl) exacts_nil (pu_pk_t rfl rfl (rfl) rfl) ?_
                  refine sa_take 16 rfl rfl (by kernel_rfl) (by kernel_rfl) (by kernel_rfl) exacts_nil (pu_bool_eq rfl rfl rfl u_4) ?_
                  refine sa_set 111 (.val (.bool true)) (done_end l) ?_
                  refine sa_one 17 (by kernel_rfl) rfl ?_
                  refine sl_as rfl rfl rfl ?_
                  refine sl_nil ⟨exacts_nil, ?_⟩
                  refine sa_done (by kernel_rfl) ?_
                  refine sw_ret ⟨rfl, _, _, res_one rfl rfl, ?_, ⟨rfl, rfl⟩⟩
                  repeat (first | exact Sub.refl _ | exact Sub.none _ | refine Sub.p0 ?_ | refine Sub.p1 ?_ | refine Sub.p2 ?_ | refine Sub.p3 ?_ | refine Sub.p4 ?_ | refine Sub.p5 ?_ | refine Sub.p6 ?_ | refine Sub.drop ?_)

end Go.Proofs.Ytioechdfghglhaa
