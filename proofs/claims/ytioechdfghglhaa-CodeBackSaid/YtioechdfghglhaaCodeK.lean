/- Walks: printed by a program of this session out of its script CodeK. -/
import Derived.Test.YtioechdfghglhaaSlT
import Derived.Test.YtioechdfghglhaaP7
import Derived.Test.YtioechdfghglhaaCodeJ
namespace Go.Proofs.Ytioechdfghglhaa
set_option linter.unusedVariables false
set_option linter.unusedSimpArgs false
set_option maxRecDepth 4000
set_option maxHeartbeats 4000000
open Go Go.RowKit SL


/-- CodeWrites. -/
theorem codeWrites_ok (ps : List Prt) (hok : ∀ p ∈ ps, PrtOk p) : FSpec Try.prog 8 [.val (.list (ps.map prtV))] [] (fun d σ' => d = .val (.bool true) ∧ σ' = []) := by
  refine spec_of_sw Try.func8 rfl ?_
  refine sw_seq ?_
  refine sl_region ?_
  refine sl_as rfl rfl rfl ?_
  refine sl_nil ?_
  refine sw_seq ?_
  refine sw_seq ?_
  refine sl_region ?_
  refine sl_callf rfl rfl cal_15 (known2_ok []) ?_ ?_ ?_ (fun _ _ h => h.elim)
  · repeat (first | exact Weaks.nil | refine Weaks.cons (Weak.junk _) ?_ | refine Weaks.cons (Weak.refl _) ?_ | refine Weaks.cons (Weak.toV rfl) ?_ | refine Weaks.cons (Weak.ref _) ?_ | refine Weaks.cons (Weak.rp_agg _) ?_)
  · repeat (first | exact Sub.refl _ | exact Sub.none _ | refine Sub.p0 ?_ | refine Sub.p1 ?_ | refine Sub.p2 ?_ | refine Sub.p3 ?_ | refine Sub.p4 ?_ | refine Sub.p5 ?_ | refine Sub.p6 ?_ | refine Sub.drop ?_)
  rintro _ _ ⟨rfl, rfl⟩
  refine sl_not rfl rfl rfl ?_
  refine sl_nil ?_
  refine sw_false rfl (rfl) ?_
  refine sw_skip ?_
  refine sw_seq ?_
  refine sw_seq ?_
  refine sl_region ?_
  refine sl_mv rfl rfl rfl ?_
  refine sl_callf rfl rfl cal_35 (light_ok ps []) ?_ ?_ ?_ (fun _ _ h => h.elim)
  · repeat (first | exact Weaks.nil | refine Weaks.cons (Weak.junk _) ?_ | refine Weaks.cons (Weak.refl _) ?_ | refine Weaks.cons (Weak.toV rfl) ?_ | refine Weaks.cons (Weak.ref _) ?_ | refine Weaks.cons (Weak.rp_agg _) ?_)
  · repeat (first | exact Sub.refl _ | exact Sub.none _ | refine Sub.p0 ?_ | refine Sub.p1 ?_ | refine Sub.p2 ?_ | refine Sub.p3 ?_ | refine Sub.p4 ?_ | refine Sub.p5 ?_ | refine Sub.p6 ?_ | refine Sub.drop ?_)
  rintro _ _ ⟨b, rfl, hb, rfl⟩
  refine sl_not rfl rfl rfl ?_
  refine sl_nil ?_
  refine sw_cond rfl (fun hnl => ?_) (fun hnl => ?_)
  · refine sw_seq ?_
    refine sl_region ?_
    refine sl_as rfl rfl rfl ?_
    refine sl_nil ?_
    refine sw_ret ⟨rfl, _, _, res_one rfl rfl, ?_, ⟨rfl, rfl⟩⟩
    repeat (first | exact Sub.refl _ | exact Sub.none _ | refine Sub.p0 ?_ | refine Sub.p1 ?_ | refine Sub.p2 ?_ | refine Sub.p3 ?_ | refine Sub.p4 ?_ | refine Sub.p5 ?_ | refine Sub.p6 ?_ | refine Sub.drop ?_)
  · obtain ⟨hn, hlt⟩ := hb (by simpa using hnl)
    refine sw_skip ?_
    refine sw_seq ?_
    refine sl_region ?_
    refine sl_callf rfl rfl cal_16 (newWriter_ok []) ?_ ?_ ?_ (fun _ _ h => h.elim)
    · repeat (first | exact Weaks.nil | refine Weaks.cons (Weak.junk _) ?_ | refine Weaks.cons (Weak.refl _) ?_ | refine Weaks.cons (Weak.toV rfl) ?_ | refine Weaks.cons (Weak.ref _) ?_ | refine Weaks.cons (Weak.rp_agg _) ?_)
    · repeat (first | exact Sub.refl _ | exact Sub.none _ | refine Sub.p0 ?_ | refine Sub.p1 ?_ | refine Sub.p2 ?_ | refine Sub.p3 ?_ | refine Sub.p4 ?_ | refine Sub.p5 ?_ | refine Sub.p6 ?_ | refine Sub.drop ?_)
    rintro _ _ ⟨p, w0, rfl, rfl⟩
    refine sl_as rfl rfl rfl ?_
    refine sl_nil ?_
    refine sw_seq ?_
    refine sl_region ?_
    refine sl_as rfl rfl rfl ?_
    refine sl_nil ?_
    refine sw_seq ?_
    refine sw_seq ?_
    refine sw_own (t := 4) (sz := 1) rfl (fun u0 => ?_)
    refine sl_region ?_
    refine sl_as rfl rfl rfl ?_
    refine sl_nil ?_
    refine sw_block ?_
    refine sw_loopw (fun nX sX δX σX => ∃ (k : Nat) (v : Value) (u : Value) (m : List UInt8), (ps.length - k) = nX ∧ sX = ⟨130, (.cons 0 (.val (.list (ps.map prtV))) (.cons 3 (.ptr p 0) (.cons 4 (.own u (m.map byteV)) (.cons 5 (.val (.int .i64 (k : Int))) .nil))))⟩ ∧ δX = [] ∧ σX = .blk p [.own v (m.map byteV)] :: .spare v 1 :: .spare u 1 :: [] ∧ k ≤ ps.length ∧ m = ([] : List UInt8) ++ (ps.take k).flatMap encPart) ?_ ?_
    · refine ⟨_, _, _, ?_, ?_, 0, w0, u0, [], rfl, rfl, rfl, rfl, Nat.zero_le _, by simp⟩
      · refine ⟨rfl, ?_⟩; repeat (first | exact WkL.nil | refine WkL.cons (Weak.refl _) ?_ | refine WkL.cons (Weak.toV rfl) ?_ | refine WkL.cons (Weak.ref _) ?_ | refine WkL.cons (Weak.rp_agg _) ?_)
      · repeat (first | exact Sub.refl _ | exact Sub.none _ | refine Sub.p0 ?_ | refine Sub.p1 ?_ | refine Sub.p2 ?_ | refine Sub.p3 ?_ | refine Sub.p4 ?_ | refine Sub.p5 ?_ | refine Sub.p6 ?_ | refine Sub.drop ?_)
    · rintro nX sX δX σX ⟨k, v, u, m, rfl, rfl, rfl, rfl, hk0, hm0⟩
      refine sw_seq ?_
      refine sw_seq ?_
      refine sl_region ?_
      refine sl_mv rfl rfl rfl ?_
      refine sl_mv rfl rfl rfl ?_
      first
        | refine sl_len rfl rfl rfl ⟨_, u_64⟩ ?_
        | refine sl_len_sl rfl rfl rfl ⟨_, u_64⟩ ?_
      refine sl_bin rfl rfl rfl rfl rfl ?_
      refine sl_nil ?_
      refine sw_cond rfl (fun hk => ?_) (fun hk => ?_)
      · have hk : k < ps.length := by simpa using hk
        have hok1 := hok ps[k] (List.getElem_mem hk)
        have hlt1 := hlt ps[k] (List.getElem_mem hk)
        have hml : m.length ≤ 20000 := by
          have := flat_len (f := encPart) (c := 1100) (ns := ps) (fun p hp => encPart_len (hok p hp) (hlt p hp)) k
          rw [hm0]; simp only [List.length_append, List.length_nil]; omega
        have e8 : m ++ encPart ps[k] = ([] : List UInt8) ++ (ps.take (k + 1)).flatMap encPart := by rw [flat_snoc hk, hm0]
        refine sw_skip ?_
        refine sw_seq ?_
        refine sw_block ?_
        refine sw_seq ?_
        refine sl_region ?_
        refine sl_mv rfl rfl rfl ?_
        refine sl_mv rfl rfl rfl ?_
        refine sl_mv rfl rfl rfl ?_
        refine sl_indexAddr' rfl rfl rfl rfl u_64 sz_74 (by omega) (idx_map hk) rfl ?_
        first
          | refine sl_load_rpn rfl rfl rfl ag_74 sz_74 (Nat.le_of_ble_eq_true rfl) ?_
          | refine sl_load_blkn rfl rfl rfl ag_74 sz_74 (by first | exact List.Mem.head _ | exact List.Mem.tail _ (List.Mem.head _) | exact List.Mem.tail _ (List.Mem.tail _ (List.Mem.head _)) | exact List.Mem.tail _ (List.Mem.tail _ (List.Mem.tail _ (List.Mem.head _))) | exact List.Mem.tail _ (List.Mem.tail _ (List.Mem.tail _ (List.Mem.tail _ (List.Mem.head _)))) | exact List.Mem.tail _ (List.Mem.tail _ (List.Mem.tail _ (List.Mem.tail _ (List.Mem.tail _ (List.Mem.head _)))))) (Nat.le_of_ble_eq_true rfl) ?_
          | refine sl_load_ref rfl rfl rfl ag_74 sz_74 (Nat.le_of_ble_eq_true rfl) ?_
        refine sl_callf rfl rfl cal_36 (put_ok u m ps[k] (.blk p [.own v (m.map byteV)] :: .spare v 1 :: []) hok1 hlt1 (by omega)) ?_ ?_ ?_ (fun _ _ h => h.elim)
        · repeat (first | exact Weaks.nil | refine Weaks.cons (Weak.junk _) ?_ | refine Weaks.cons (Weak.refl _) ?_ | refine Weaks.cons (Weak.toV rfl) ?_ | refine Weaks.cons (Weak.ref _) ?_ | refine Weaks.cons (Weak.rp_agg _) ?_)
        · repeat (first | exact Sub.refl _ | exact Sub.none _ | refine Sub.p0 ?_ | refine Sub.p1 ?_ | refine Sub.p2 ?_ | refine Sub.p3 ?_ | refine Sub.p4 ?_ | refine Sub.p5 ?_ | refine Sub.p6 ?_ | refine Sub.drop ?_)
        rintro _ _ ⟨u2, rfl, rfl⟩
        refine sl_as rfl rfl rfl ?_
        refine sl_nil ?_
        refine sw_seq ?_
        refine sl_region ?_
        refine sl_mv rfl rfl rfl ?_
        refine sl_mv rfl rfl rfl ?_
        refine sl_indexAddr' rfl rfl rfl rfl u_64 sz_74 (by omega) (idx_map hk) rfl ?_
        first
          | refine sl_fieldAddr_ptr rfl rfl rfl fo_74_0 ?_
          | refine sl_fieldAddr_rp rfl rfl rfl fo_74_0 ?_
          | refine sl_fieldAddr_ref rfl rfl rfl fo_74_0 ?_
        first
          | refine sl_load_rp1 rfl rfl rfl ag_5 rfl ?_
          | refine sl_load_blk1 rfl rfl rfl ag_5 (by first | exact List.Mem.head _ | exact List.Mem.tail _ (List.Mem.head _) | exact List.Mem.tail _ (List.Mem.tail _ (List.Mem.head _)) | exact List.Mem.tail _ (List.Mem.tail _ (List.Mem.tail _ (List.Mem.head _))) | exact List.Mem.tail _ (List.Mem.tail _ (List.Mem.tail _ (List.Mem.tail _ (List.Mem.head _)))) | exact List.Mem.tail _ (List.Mem.tail _ (List.Mem.tail _ (List.Mem.tail _ (List.Mem.tail _ (List.Mem.head _)))))) rfl ?_
        refine sl_rem rfl rfl rfl rfl (by decide) ?_
        refine sl_set 32 (.val (.int .u8 ((ps[k].what.toNat % 5 : Nat) : Int))) (rem5 ps[k].what) ?_
        refine sl_nil ?_
        refine sw_block ?_
        refine sw_seq ?_
        refine sl_region ?_
        refine sl_bin rfl rfl rfl rfl rfl ?_
        refine sl_as rfl rfl rfl ?_
        refine sl_nil ?_
        refine sw_cond rfl (fun h0 => ?_) (fun h0 => ?_)
        · have e9 : m ++ [ps[k].n].flatMap encNum = m ++ encPart ps[k] := by rw [encPart0 (eq5 h0)]; simp
          refine sa_start [] mixed ?_
          refine sa_take 0 rfl rfl (by kernel_rfl) (by kernel_rfl) (by kernel_rfl) exacts_nil (pu_mv rfl rfl) ?_
          refine sa_take 1 rfl rfl (by kernel_rfl) (by kernel_rfl) (by kernel_rfl) exacts_nil (pu_nc rfl rfl rfl) ?_
          first
            | refine sa_take 2 rfl rfl (by kernel_rfl) (by kernel_rfl) (by kernel_rfl) exacts_nil (pu_fieldAddr_ptr rfl rfl fo_30_0) ?_
            | refine sa_take 2 rfl rfl (by kernel_rfl) (by kernel_rfl) (by kernel_rfl) exacts_nil (pu_fieldAddr_rp rfl rfl fo_30_0) ?_
            | refine sa_take 2 rfl rfl (by kernel_rfl) (by kernel_rfl) (by kernel_rfl) exacts_nil (pu_fieldAddr_ref rfl rfl fo_30_0) ?_
          refine sa_take 3 rfl rfl (by kernel_rfl) (by kernel_rfl) (by kernel_rfl) exacts_nil (pu_mv rfl rfl) ?_
          refine sa_take 4 rfl rfl (by kernel_rfl) (by kernel_rfl) (by kernel_rfl) exacts_nil (pu_mv rfl rfl) ?_
          refine sa_take 5 rfl rfl (by kernel_rfl) (by kernel_rfl) (by kernel_rfl) exacts_nil (pu_indexAddr rfl rfl rfl u_64 sz_74 (by omega) (idx_map hk) rfl) ?_
          first
            | refine sa_take 6 rfl rfl (by kernel_rfl) (by kernel_rfl) (by kernel_rfl) exacts_nil (pu_fieldAddr_ptr rfl rfl fo_74_1) ?_
            | refine sa_take 6 rfl rfl (by kernel_rfl) (by kernel_rfl) (by kernel_rfl) exacts_nil (pu_fieldAddr_rp rfl rfl fo_74_1) ?_
            | refine sa_take 6 rfl rfl (by kernel_rfl) (by kernel_rfl) (by kernel_rfl) exacts_nil (pu_fieldAddr_ref rfl rfl fo_74_1) ?_
          refine sa_take 7 rfl rfl (by kernel_rfl) (by kernel_rfl) (by kernel_rfl) exacts_nil (pu_load_rp1 rfl rfl ag_37 rfl) ?_
          refine sa_one 8 (by kernel_rfl) rfl ?_
          refine sl_bs1 rfl rfl (.cons rfl .nil) u_51 sz_37 zs_37 (by decide) rfl rfl rfl rfl ?_
          refine sl_nil ⟨exacts_nil, ?_⟩
          refine sa_one 9 (by kernel_rfl) rfl ?_
          refine sl_callf rfl rfl cal_28 (num_ok p v m [ps[k].n] (.spare u2 1 :: []) (by intro n hn; rw [List.mem_singleton.mp hn]; exact hok1.1) (by simp only [List.length_cons, List.length_nil]; omega)) ?_ ?_ ?_ (fun _ _ h => h.elim)
          · repeat (first | exact Weaks.nil | refine Weaks.cons (Weak.junk _) ?_ | refine Weaks.cons (Weak.refl _) ?_ | refine Weaks.cons (Weak.toV rfl) ?_ | refine Weaks.cons (Weak.ref _) ?_ | refine Weaks.cons (Weak.rp_agg _) ?_)
          · repeat (first | exact Sub.refl _ | exact Sub.none _ | refine Sub.p0 ?_ | refine Sub.p1 ?_ | refine Sub.p2 ?_ | refine Sub.p3 ?_ | refine Sub.p4 ?_ | refine Sub.p5 ?_ | refine Sub.p6 ?_ | refine Sub.drop ?_)
          rintro _ _ ⟨rfl, v2, rfl⟩
          refine sl_nil ⟨exacts_nil, ?_⟩
          rw [e9]
          refine sa_done (by kernel_rfl) ?_
          refine sl_region ?_
          refine sl_mv rfl rfl rfl ?_
          first
            | refine sl_inc rfl rfl rfl rfl (by omega) ?_
            | refine sl_add rfl rfl rfl rfl (by constructor <;> omega) ?_
            | refine sl_bin rfl rfl rfl rfl rfl ?_
          refine sl_as rfl rfl rfl ?_
          refine sl_nil ?_
          refine ⟨_, by omega, _, _, ?_, ?_, k + 1, v2, u2, _, rfl, rfl, rfl, rfl, by omega, e8⟩
          · refine ⟨rfl, ?_⟩; repeat (first | exact WkL.nil | refine WkL.cons (Weak.refl _) ?_ | refine WkL.cons (Weak.toV rfl) ?_ | refine WkL.cons (Weak.ref _) ?_ | refine WkL.cons (Weak.rp_agg _) ?_)
          · repeat (first | exact Sub.refl _ | exact Sub.none _ | refine Sub.p0 ?_ | refine Sub.p1 ?_ | refine Sub.p2 ?_ | refine Sub.p3 ?_ | refine Sub.p4 ?_ | refine Sub.p5 ?_ | refine Sub.p6 ?_ | refine Sub.drop ?_)
        · refine sw_seq ?_
          refine sl_region ?_
          refine sl_bin rfl rfl rfl rfl rfl ?_
          refine sl_as rfl rfl rfl ?_
          refine sl_nil ?_
          refine sw_cond rfl (fun h1 => ?_) (fun h1 => ?_)
          · have e9 : m ++ [IntKind.i64.wrap ps[k].n].flatMap encInt = m ++ encPart ps[k] := by rw [encPart1 (eq5 h1)]; simp
            refine sa_start [] mixed ?_
            refine sa_take 0 rfl rfl (by kernel_rfl) (by kernel_rfl) (by kernel_rfl) exacts_nil (pu_mv rfl rfl) ?_
            refine sa_take 1 rfl rfl (by kernel_rfl) (by kernel_rfl) (by kernel_rfl) exacts_nil (pu_nc rfl rfl rfl) ?_
            first
              | refine sa_take 2 rfl rfl (by kernel_rfl) (by kernel_rfl) (by kernel_rfl) exacts_nil (pu_fieldAddr_ptr rfl rfl fo_30_0) ?_
              | refine sa_take 2 rfl rfl (by kernel_rfl) (by kernel_rfl) (by kernel_rfl) exacts_nil (pu_fieldAddr_rp rfl rfl fo_30_0) ?_
              | refine sa_take 2 rfl rfl (by kernel_rfl) (by kernel_rfl) (by kernel_rfl) exacts_nil (pu_fieldAddr_ref rfl rfl fo_30_0) ?_
            refine sa_take 3 rfl rfl (by kernel_rfl) (by kernel_rfl) (by kernel_rfl) exacts_nil (pu_mv rfl rfl) ?_
            refine sa_take 4 rfl rfl (by kernel_rfl) (by kernel_rfl) (by kernel_rfl) exacts_nil (pu_mv rfl rfl) ?_
            refine sa_take 5 rfl rfl (by kernel_rfl) (by kernel_rfl) (by kernel_rfl) exacts_nil (pu_indexAddr rfl rfl rfl u_64 sz_74 (by omega) (idx_map hk) rfl) ?_
            first
              | refine sa_take 6 rfl rfl (by kernel_rfl) (by kernel_rfl) (by kernel_rfl) exacts_nil (pu_fieldAddr_ptr rfl rfl fo_74_1) ?_
              | refine sa_take 6 rfl rfl (by kernel_rfl) (by kernel_rfl) (by kernel_rfl) exacts_nil (pu_fieldAddr_rp rfl rfl fo_74_1) ?_
              | refine sa_take 6 rfl rfl (by kernel_rfl) (by kernel_rfl) (by kernel_rfl) exacts_nil (pu_fieldAddr_ref rfl rfl fo_74_1) ?_
            refine sa_take 7 rfl rfl (by kernel_rfl) (by kernel_rfl) (by kernel_rfl) exacts_nil (pu_load_rp1 rfl rfl ag_37 rfl) ?_
            refine sa_take 8 rfl rfl (by kernel_rfl) (by kernel_rfl) (by kernel_rfl) exacts_nil (pu_conv_int rfl rfl is_37 u_2) ?_
            refine sa_one 9 (by kernel_rfl) rfl ?_
            refine sl_bs1 rfl rfl (.cons rfl .nil) u_52 sz_2 zs_2 (by decide) rfl rfl rfl rfl ?_
            refine sl_nil ⟨exacts_nil, ?_⟩
            refine sa_one 10 (by kernel_rfl) rfl ?_
            refine sl_callf rfl rfl cal_17 (int_ok p v m [IntKind.i64.wrap ps[k].n] (.spare u2 1 :: []) (by intro n hn; rw [List.mem_singleton.mp hn]; exact wrap_i64_ok _) (by simp only [List.length_cons, List.length_nil]; omega)) ?_ ?_ ?_ (fun _ _ h => h.elim)
            · repeat (first | exact Weaks.nil | refine Weaks.cons (Weak.junk _) ?_ | refine Weaks.cons (Weak.refl _) ?_ | refine Weaks.cons (Weak.toV rfl) ?_ | refine Weaks.cons (Weak.ref _) ?_ | refine Weaks.cons (Weak.rp_agg _) ?_)
            · repeat (first | exact Sub.refl _ | exact Sub.none _ | refine Sub.p0 ?_ | refine Sub.p1 ?_ | refine Sub.p2 ?_ | refine Sub.p3 ?_ | refine Sub.p4 ?_ | refine Sub.p5 ?_ | refine Sub.p6 ?_ | refine Sub.drop ?_)
            rintro _ _ ⟨rfl, v2, rfl⟩
            refine sl_nil ⟨exacts_nil, ?_⟩
            rw [e9]
            refine sa_done (by kernel_rfl) ?_
            refine sl_region ?_
            refine sl_mv rfl rfl rfl ?_
            first
              | refine sl_inc rfl rfl rfl rfl (by omega) ?_
              | refine sl_add rfl rfl rfl rfl (by constructor <;> omega) ?_
              | refine sl_bin rfl rfl rfl rfl rfl ?_
            refine sl_as rfl rfl rfl ?_
            refine sl_nil ?_
            refine ⟨_, by omega, _, _, ?_, ?_, k + 1, v2, u2, _, rfl, rfl, rfl, rfl, by omega, e8⟩
            · refine ⟨rfl, ?_⟩; repeat (first | exact WkL.nil | refine WkL.cons (Weak.refl _) ?_ | refine WkL.cons (Weak.toV rfl) ?_ | refine WkL.cons (Weak.ref _) ?_ | refine WkL.cons (Weak.rp_agg _) ?_)
            · repeat (first | exact Sub.refl _ | exact Sub.none _ | refine Sub.p0 ?_ | refine Sub.p1 ?_ | refine Sub.p2 ?_ | refine Sub.p3 ?_ | refine Sub.p4 ?_ | refine Sub.p5 ?_ | refine Sub.p6 ?_ | refine Sub.drop ?_)
          · refine sw_seq ?_
            refine sl_region ?_
            refine sl_bin rfl rfl rfl rfl rfl ?_
            refine sl_as rfl rfl rfl ?_
            refine sl_nil ?_
            refine sw_cond rfl (fun h2 => ?_) (fun h2 => ?_)
            · have e9 : m ++ [ps[k].t].flatMap encText = m ++ encPart ps[k] := by rw [encPart2 (eq5 h2)]; simp
              refine sa_start [] mixed ?_
              refine sa_take 0 rfl rfl (by kernel_rfl) (by kernel_rfl) (by kernel_rfl) exacts_nil (pu_mv rfl rfl) ?_
              refine sa_take 1 rfl rfl (by kernel_rfl) (by kernel_rfl) (by kernel_rfl) exacts_nil (pu_nc rfl rfl rfl) ?_
              first
                | refine sa_take 2 rfl rfl (by kernel_rfl) (by kernel_rfl) (by kernel_rfl) exacts_nil (pu_fieldAddr_ptr rfl rfl fo_30_0) ?_
                | refine sa_take 2 rfl rfl (by kernel_rfl) (by kernel_rfl) (by kernel_rfl) exacts_nil (pu_fieldAddr_rp rfl rfl fo_30_0) ?_
                | refine sa_take 2 rfl rfl (by kernel_rfl) (by kernel_rfl) (by kernel_rfl) exacts_nil (pu_fieldAddr_ref rfl rfl fo_30_0) ?_
              refine sa_take 3 rfl rfl (by kernel_rfl) (by kernel_rfl) (by kernel_rfl) exacts_nil (pu_mv rfl rfl) ?_
              refine sa_take 4 rfl rfl (by kernel_rfl) (by kernel_rfl) (by kernel_rfl) exacts_nil (pu_mv rfl rfl) ?_
              refine sa_take 5 rfl rfl (by kernel_rfl) (by kernel_rfl) (by kernel_rfl) exacts_nil (pu_indexAddr rfl rfl rfl u_64 sz_74 (by omega) (idx_map hk) rfl) ?_
              first
                | refine sa_take 6 rfl rfl (by kernel_rfl) (by kernel_rfl) (by kernel_rfl) exacts_nil (pu_fieldAddr_ptr rfl rfl fo_74_2) ?_
                | refine sa_take 6 rfl rfl (by kernel_rfl) (by kernel_rfl) (by kernel_rfl) exacts_nil (pu_fieldAddr_rp rfl rfl fo_74_2) ?_
                | refine sa_take 6 rfl rfl (by kernel_rfl) (by kernel_rfl) (by kernel_rfl) exacts_nil (pu_fieldAddr_ref rfl rfl fo_74_2) ?_
              refine sa_take 7 rfl rfl (by kernel_rfl) (by kernel_rfl) (by kernel_rfl) exacts_nil (pu_load_rp1 rfl rfl ag_9 rfl) ?_
              refine sa_one 8 (by kernel_rfl) rfl ?_
              refine sl_bs1 rfl rfl (.cons rfl .nil) u_53 sz_9 zs_9 (by decide) rfl rfl rfl rfl ?_
              refine sl_nil ⟨exacts_nil, ?_⟩
              refine sa_one 9 (by kernel_rfl) rfl ?_
              refine sl_callf rfl rfl cal_29 (text_ok p v m [ps[k].t] 100 (.spare u2 1 :: []) (by intro n hn; rw [List.mem_singleton.mp hn]; exact hlt1.1) (by simp only [List.length_cons, List.length_nil]; omega)) ?_ ?_ ?_ (fun _ _ h => h.elim)
              · repeat (first | exact Weaks.nil | refine Weaks.cons (Weak.junk _) ?_ | refine Weaks.cons (Weak.refl _) ?_ | refine Weaks.cons (Weak.toV rfl) ?_ | refine Weaks.cons (Weak.ref _) ?_ | refine Weaks.cons (Weak.rp_agg _) ?_)
              · repeat (first | exact Sub.refl _ | exact Sub.none _ | refine Sub.p0 ?_ | refine Sub.p1 ?_ | refine Sub.p2 ?_ | refine Sub.p3 ?_ | refine Sub.p4 ?_ | refine Sub.p5 ?_ | refine Sub.p6 ?_ | refine Sub.drop ?_)
              rintro _ _ ⟨rfl, v2, rfl⟩
              refine sl_nil ⟨exacts_nil, ?_⟩
              rw [e9]
              refine sa_done (by kernel_rfl) ?_
              refine sl_region ?_
              refine sl_mv rfl rfl rfl ?_
              first
                | refine sl_inc rfl rfl rfl rfl (by omega) ?_
                | refine sl_add rfl rfl rfl rfl (by constructor <;> omega) ?_
                | refine sl_bin rfl rfl rfl rfl rfl ?_
              refine sl_as rfl rfl rfl ?_
              refine sl_nil ?_
              refine ⟨_, by omega, _, _, ?_, ?_, k + 1, v2, u2, _, rfl, rfl, rfl, rfl, by omega, e8⟩
              · refine ⟨rfl, ?_⟩; repeat (first | exact WkL.nil | refine WkL.cons (Weak.refl _) ?_ | refine WkL.cons (Weak.toV rfl) ?_ | refine WkL.cons (Weak.ref _) ?_ | refine WkL.cons (Weak.rp_agg _) ?_)
              · repeat (first | exact Sub.refl _ | exact Sub.none _ | refine Sub.p0 ?_ | refine Sub.p1 ?_ | refine Sub.p2 ?_ | refine Sub.p3 ?_ | refine Sub.p4 ?_ | refine Sub.p5 ?_ | refine Sub.p6 ?_ | refine Sub.drop ?_)
            · refine sw_seq ?_
              refine sl_region ?_
              refine sl_bin rfl rfl rfl rfl rfl ?_
              refine sl_as rfl rfl rfl ?_
              refine sl_nil ?_
              refine sw_cond rfl (fun h3 => ?_) (fun h3 => ?_)
              · have e9 : m ++ [ps[k].n % 2 == 1].flatMap encBool = m ++ encPart ps[k] := by rw [encPart3 (eq5 h3)]; simp
                refine sa_start [] mixed ?_
                refine sa_take 0 rfl rfl (by kernel_rfl) (by kernel_rfl) (by kernel_rfl) exacts_nil (pu_mv rfl rfl) ?_
                refine sa_take 1 rfl rfl (by kernel_rfl) (by kernel_rfl) (by kernel_rfl) exacts_nil (pu_nc rfl rfl rfl) ?_
                first
                  | refine sa_take 2 rfl rfl (by kernel_rfl) (by kernel_rfl) (by kernel_rfl) exacts_nil (pu_fieldAddr_ptr rfl rfl fo_30_0) ?_
                  | refine sa_take 2 rfl rfl (by kernel_rfl) (by kernel_rfl) (by kernel_rfl) exacts_nil (pu_fieldAddr_rp rfl rfl fo_30_0) ?_
                  | refine sa_take 2 rfl rfl (by kernel_rfl) (by kernel_rfl) (by kernel_rfl) exacts_nil (pu_fieldAddr_ref rfl rfl fo_30_0) ?_
                refine sa_take 3 rfl rfl (by kernel_rfl) (by kernel_rfl) (by kernel_rfl) exacts_nil (pu_mv rfl rfl) ?_
                refine sa_take 4 rfl rfl (by kernel_rfl) (by kernel_rfl) (by kernel_rfl) exacts_nil (pu_mv rfl rfl) ?_
                refine sa_take 5 rfl rfl (by kernel_rfl) (by kernel_rfl) (by kernel_rfl) exacts_nil (pu_indexAddr rfl rfl rfl u_64 sz_74 (by omega) (idx_map hk) rfl) ?_
                first
                  | refine sa_take 6 rfl rfl (by kernel_rfl) (by kernel_rfl) (by kernel_rfl) exacts_nil (pu_fieldAddr_ptr rfl rfl fo_74_1) ?_
                  | refine sa_take 6 rfl rfl (by kernel_rfl) (by kernel_rfl) (by kernel_rfl) exacts_nil (pu_fieldAddr_rp rfl rfl fo_74_1) ?_
                  | refine sa_take 6 rfl rfl (by kernel_rfl) (by kernel_rfl) (by kernel_rfl) exacts_nil (pu_fieldAddr_ref rfl rfl fo_74_1) ?_
                refine sa_take 7 rfl rfl (by kernel_rfl) (by kernel_rfl) (by kernel_rfl) exacts_nil (pu_load_rp1 rfl rfl ag_37 rfl) ?_
                refine sa_take 8 rfl rfl (by kernel_rfl) (by kernel_rfl) (by kernel_rfl) exacts_nil (pu_rem rfl rfl rfl (by decide)) ?_
                refine sa_take 9 rfl rfl (by kernel_rfl) (by kernel_rfl) (by kernel_rfl) exacts_nil (pu_bin rfl rfl rfl rfl) ?_
                refine sa_set 89 (.val (boolV (ps[k].n % 2 == 1))) (odd_bool ps[k].n) ?_
                refine sa_one 10 (by kernel_rfl) rfl ?_
                refine sl_bs1 rfl rfl (.cons rfl .nil) u_54 sz_4 zs_4 (by decide) rfl rfl rfl rfl ?_
                refine sl_nil ⟨exacts_nil, ?_⟩
                refine sa_one 11 (by kernel_rfl) rfl ?_
                refine sl_callf rfl rfl cal_30 (bool_ok p v m [ps[k].n % 2 == 1] (.spare u2 1 :: []) (by simp only [List.length_cons, List.length_nil]; omega)) ?_ ?_ ?_ (fun _ _ h => h.elim)
                · repeat (first | exact Weaks.nil | refine Weaks.cons (Weak.junk _) ?_ | refine Weaks.cons (Weak.refl _) ?_ | refine Weaks.cons (Weak.toV rfl) ?_ | refine Weaks.cons (Weak.ref _) ?_ | refine Weaks.cons (Weak.rp_agg _) ?_)
                · repeat (first | exact Sub.refl _ | exact Sub.none _ | refine Sub.p0 ?_ | refine Sub.p1 ?_ | refine Sub.p2 ?_ | refine Sub.p3 ?_ | refine Sub.p4 ?_ | refine Sub.p5 ?_ | refine Sub.p6 ?_ | refine Sub.drop ?_)
                rintro _ _ ⟨rfl, v2, rfl⟩
                refine sl_nil ⟨exacts_nil, ?_⟩
                rw [e9]
                refine sa_done (by kernel_rfl) ?_
                refine sl_region ?_
                refine sl_mv rfl rfl rfl ?_
                first
                  | refine sl_inc rfl rfl rfl rfl (by omega) ?_
                  | refine sl_add rfl rfl rfl rfl (by constructor <;> omega) ?_
                  | refine sl_bin rfl rfl rfl rfl rfl ?_
                refine sl_as rfl rfl rfl ?_
                refine sl_nil ?_
                refine ⟨_, by omega, _, _, ?_, ?_, k + 1, v2, u2, _, rfl, rfl, rfl, rfl, by omega, e8⟩
                · refine ⟨rfl, ?_⟩; repeat (first | exact WkL.nil | refine WkL.cons (Weak.refl _) ?_ | refine WkL.cons (Weak.toV rfl) ?_ | refine WkL.cons (Weak.ref _) ?_ | refine WkL.cons (Weak.rp_agg _) ?_)
                · repeat (first | exact Sub.refl _ | exact Sub.none _ | refine Sub.p0 ?_ | refine Sub.p1 ?_ | refine Sub.p2 ?_ | refine Sub.p3 ?_ | refine Sub.p4 ?_ | refine Sub.p5 ?_ | refine Sub.p6 ?_ | refine Sub.drop ?_)
              · have e9 : m ++ [ps[k].s].flatMap encSumm = m ++ encPart ps[k] := by rw [encPart4 (ne5 h0) (ne5 h1) (ne5 h2) (ne5 h3)]; simp
                refine sl_region ?_
                refine sl_mv rfl rfl rfl ?_
                refine sl_mv rfl rfl rfl ?_
                refine sl_mv rfl rfl rfl ?_
                refine sl_indexAddr' rfl rfl rfl rfl u_64 sz_74 (by omega) (idx_map hk) rfl ?_
                first
                  | refine sl_fieldAddr_ptr rfl rfl rfl fo_74_3 ?_
                  | refine sl_fieldAddr_rp rfl rfl rfl fo_74_3 ?_
                  | refine sl_fieldAddr_ref rfl rfl rfl fo_74_3 ?_
                first
                  | refine sl_load_rpn rfl rfl rfl ag_72 sz_72 (Nat.le_of_ble_eq_true rfl) ?_
                  | refine sl_load_blkn rfl rfl rfl ag_72 sz_72 (by first | exact List.Mem.head _ | exact List.Mem.tail _ (List.Mem.head _) | exact List.Mem.tail _ (List.Mem.tail _ (List.Mem.head _)) | exact List.Mem.tail _ (List.Mem.tail _ (List.Mem.tail _ (List.Mem.head _))) | exact List.Mem.tail _ (List.Mem.tail _ (List.Mem.tail _ (List.Mem.tail _ (List.Mem.head _)))) | exact List.Mem.tail _ (List.Mem.tail _ (List.Mem.tail _ (List.Mem.tail _ (List.Mem.tail _ (List.Mem.head _)))))) (Nat.le_of_ble_eq_true rfl) ?_
                  | refine sl_load_ref rfl rfl rfl ag_72 sz_72 (Nat.le_of_ble_eq_true rfl) ?_
                refine sl_bsn ([smyV ps[k].s]) rfl rfl (.cons rfl .nil) u_124 sz_72 zs_72 (by decide) rfl rfl rfl (by repeat (first | exact sized_nil | exact sized_map (fun _ => ⟨rfl, rfl⟩) | refine sized_cons rfl rfl ?_ | refine sized_append ?_ ?_ | assumption)) ?_
                refine sl_callf rfl rfl cal_37 (wsumm_ok p v m [ps[k].s] (.spare u2 1 :: []) (by intro s hs; rw [List.mem_singleton.mp hs]; exact hok1.2) (by intro s hs; rw [List.mem_singleton.mp hs]; exact hlt1.2) (by simp only [List.length_cons, List.length_nil]; omega)) ?_ ?_ ?_ (fun _ _ h => h.elim)
                · repeat (first | exact Weaks.nil | refine Weaks.cons (Weak.junk _) ?_ | refine Weaks.cons (Weak.refl _) ?_ | refine Weaks.cons (Weak.toV rfl) ?_ | refine Weaks.cons (Weak.ref _) ?_ | refine Weaks.cons (Weak.rp_agg _) ?_)
                · repeat (first | exact Sub.refl _ | exact Sub.none _ | refine Sub.p0 ?_ | refine Sub.p1 ?_ | refine Sub.p2 ?_ | refine Sub.p3 ?_ | refine Sub.p4 ?_ | refine Sub.p5 ?_ | refine Sub.p6 ?_ | refine Sub.drop ?_)
                rintro _ _ ⟨rfl, v2, rfl⟩
                rw [e9]
                refine sl_nil ?_
                refine sl_region ?_
                refine sl_mv rfl rfl rfl ?_
                first
                  | refine sl_inc rfl rfl rfl rfl (by omega) ?_
                  | refine sl_add rfl rfl rfl rfl (by constructor <;> omega) ?_
                  | refine sl_bin rfl rfl rfl rfl rfl ?_
                refine sl_as rfl rfl rfl ?_
                refine sl_nil ?_
                refine ⟨_, by omega, _, _, ?_, ?_, k + 1, v2, u2, _, rfl, rfl, rfl, rfl, by omega, e8⟩
                · refine ⟨rfl, ?_⟩; repeat (first | exact WkL.nil | refine WkL.cons (Weak.refl _) ?_ | refine WkL.cons (Weak.toV rfl) ?_ | refine WkL.cons (Weak.ref _) ?_ | refine WkL.cons (Weak.rp_agg _) ?_)
                · repeat (first | exact Sub.refl _ | exact Sub.none _ | refine Sub.p0 ?_ | refine Sub.p1 ?_ | refine Sub.p2 ?_ | refine Sub.p3 ?_ | refine Sub.p4 ?_ | refine Sub.p5 ?_ | refine Sub.p6 ?_ | refine Sub.drop ?_)
      · have hk : k = ps.length := by have h9 : ¬ k < ps.length := (by simpa using hk); omega
        subst hk
        rw [List.take_length] at hm0
        have hml : m.length ≤ 20000 := by
          have := flat_allc (f := encPart) (c := 1100) (ns := ps) (fun p hp => encPart_len (hok p hp) (hlt p hp))
          rw [hm0]; simp only [List.length_append, List.length_nil]; omega
        have hts : ∀ s ∈ ps.map Prt.t, s.length ≤ 100 := by
          intro s hs
          obtain ⟨q, hq, rfl⟩ := List.mem_map.mp hs
          exact (hlt q hq).1
        have hnl2 : (ps.map Prt.t).length ≤ 12 := by rw [List.length_map]; exact hn
        refine sw_exit ?_
        refine sw_seq ?_
        refine sl_region ?_
        refine sl_callf rfl rfl cal_16 (newWriter_ok (.blk p [.own v (m.map byteV)] :: .spare v 1 :: .spare u 1 :: [])) ?_ ?_ ?_ (fun _ _ h => h.elim)
        · repeat (first | exact Weaks.nil | refine Weaks.cons (Weak.junk _) ?_ | refine Weaks.cons (Weak.refl _) ?_ | refine Weaks.cons (Weak.toV rfl) ?_ | refine Weaks.cons (Weak.ref _) ?_ | refine Weaks.cons (Weak.rp_agg _) ?_)
        · repeat (first | exact Sub.refl _ | exact Sub.none _ | refine Sub.p0 ?_ | refine Sub.p1 ?_ | refine Sub.p2 ?_ | refine Sub.p3 ?_ | refine Sub.p4 ?_ | refine Sub.p5 ?_ | refine Sub.p6 ?_ | refine Sub.drop ?_)
        rintro _ _ ⟨p2, x0, rfl, rfl⟩
        refine sl_as rfl rfl rfl ?_
        refine sl_nil ?_
        refine sw_seq ?_
        refine sa_start [] mixed ?_
        refine sa_take 0 rfl rfl (by kernel_rfl) (by kernel_rfl) (by kernel_rfl) exacts_nil (pu_mv rfl rfl) ?_
        refine sa_take 1 rfl rfl (by kernel_rfl) (by kernel_rfl) (by kernel_rfl) exacts_nil (pu_nc rfl rfl rfl) ?_
        first
          | refine sa_take 2 rfl rfl (by kernel_rfl) (by kernel_rfl) (by kernel_rfl) exacts_nil (pu_fieldAddr_ptr rfl rfl fo_30_0) ?_
          | refine sa_take 2 rfl rfl (by kernel_rfl) (by kernel_rfl) (by kernel_rfl) exacts_nil (pu_fieldAddr_rp rfl rfl fo_30_0) ?_
          | refine sa_take 2 rfl rfl (by kernel_rfl) (by kernel_rfl) (by kernel_rfl) exacts_nil (pu_fieldAddr_ref rfl rfl fo_30_0) ?_
        refine sa_take 3 rfl rfl (by kernel_rfl) (by kernel_rfl) (by kernel_rfl) exacts_nil (pu_mv rfl rfl) ?_
        refine sa_one 4 (by kernel_rfl) rfl ?_
        refine sl_callf rfl rfl cal_38 (l2_ok ps (.blk p2 [.own x0 (([] : List UInt8).map byteV)] :: .spare x0 1 :: .blk p [.own v (m.map byteV)] :: .spare v 1 :: .spare u 1 :: []) hn) ?_ ?_ ?_ (fun _ _ h => h.elim)
        · repeat (first | exact Weaks.nil | refine Weaks.cons (Weak.junk _) ?_ | refine Weaks.cons (Weak.refl _) ?_ | refine Weaks.cons (Weak.toV rfl) ?_ | refine Weaks.cons (Weak.ref _) ?_ | refine Weaks.cons (Weak.rp_agg _) ?_)
        · repeat (first | exact Sub.refl _ | exact Sub.none _ | refine Sub.p0 ?_ | refine Sub.p1 ?_ | refine Sub.p2 ?_ | refine Sub.p3 ?_ | refine Sub.p4 ?_ | refine Sub.p5 ?_ | refine Sub.p6 ?_ | refine Sub.drop ?_)
        rintro _ _ ⟨rfl, rfl⟩
        refine sl_nil ⟨exacts_nil, ?_⟩
        refine sa_one 5 (by kernel_rfl) rfl ?_
        refine sl_callf rfl rfl cal_29 (text_ok p2 x0 [] (ps.map Prt.t) 100 (.blk p [.own v (m.map byteV)] :: .spare v 1 :: .spare u 1 :: []) hts (by simp only [List.length_nil]; omega)) ?_ ?_ ?_ (fun _ _ h => h.elim)
        · repeat (first | exact Weaks.nil | refine Weaks.cons (Weak.junk _) ?_ | refine Weaks.cons (Weak.refl _) ?_ | refine Weaks.cons (Weak.toV rfl) ?_ | refine Weaks.cons (Weak.ref _) ?_ | refine Weaks.cons (Weak.rp_agg _) ?_)
        · repeat (first | exact Sub.refl _ | exact Sub.none _ | refine Sub.p0 ?_ | refine Sub.p1 ?_ | refine Sub.p2 ?_ | refine Sub.p3 ?_ | refine Sub.p4 ?_ | refine Sub.p5 ?_ | refine Sub.p6 ?_ | refine Sub.drop ?_)
        rintro _ _ ⟨rfl, x1, rfl⟩
        refine sl_nil ⟨exacts_nil, ?_⟩
        refine sa_done (by kernel_rfl) ?_
        refine sw_seq ?_
        refine sl_region ?_
        refine sl_as rfl rfl rfl ?_
        refine sl_nil ?_
        refine sw_seq ?_
        refine sw_seq ?_
        refine sw_own (t := 7) (sz := 1) rfl (fun y0 => ?_)
        refine sl_region ?_
        refine sl_as rfl rfl rfl ?_
        refine sl_nil ?_
        refine sw_block ?_
        refine sw_loopw (fun nX sX δX σX => ∃ (k : Nat) (y : Value) (m2 : List UInt8), (ps.length - k) = nX ∧ sX = ⟨130, (.cons 0 (.val (.list (ps.map prtV))) (.cons 3 (.ptr p 0) (.cons 4 (.own u (m.map byteV)) (.cons 6 (.ptr p2 0) (.cons 7 (.own y (m2.map byteV)) (.cons 8 (.val (.int .i64 (k : Int))) .nil))))))⟩ ∧ δX = [] ∧ σX = .spare y 1 :: .blk p [.own v (m.map byteV)] :: .spare v 1 :: .blk p2 [.own x1 ((([] : List UInt8) ++ (ps.map Prt.t).flatMap encText).map byteV)] :: .spare x1 1 :: [] ∧ k ≤ ps.length ∧ m2 = ([] : List UInt8) ++ ((ps.map Prt.t).take k).flatMap encText) ?_ ?_
        · refine ⟨_, _, _, ?_, ?_, 0, y0, [], rfl, rfl, rfl, rfl, Nat.zero_le _, by simp⟩
          · refine ⟨rfl, ?_⟩; repeat (first | exact WkL.nil | refine WkL.cons (Weak.refl _) ?_ | refine WkL.cons (Weak.toV rfl) ?_ | refine WkL.cons (Weak.ref _) ?_ | refine WkL.cons (Weak.rp_agg _) ?_)
          · repeat (first | exact Sub.refl _ | exact Sub.none _ | refine Sub.p0 ?_ | refine Sub.p1 ?_ | refine Sub.p2 ?_ | refine Sub.p3 ?_ | refine Sub.p4 ?_ | refine Sub.p5 ?_ | refine Sub.p6 ?_ | refine Sub.drop ?_)
        · rintro nX sX δX σX ⟨k, y, m2, rfl, rfl, rfl, rfl, hk0, hm2⟩
          refine sw_seq ?_
          refine sw_seq ?_
          refine sl_region ?_
          refine sl_mv rfl rfl rfl ?_
          refine sl_mv rfl rfl rfl ?_
          first
            | refine sl_len rfl rfl rfl ⟨_, u_64⟩ ?_
            | refine sl_len_sl rfl rfl rfl ⟨_, u_64⟩ ?_
          refine sl_bin rfl rfl rfl rfl rfl ?_
          refine sl_nil ?_
          refine sw_cond rfl (fun hk => ?_) (fun hk => ?_)
          · have hk : k < ps.length := by simpa using hk
            have hk' : k < (ps.map Prt.t).length := by rw [List.length_map]; exact hk
            have hlt1 := hlt ps[k] (List.getElem_mem hk)
            have hml2 : m2.length ≤ 20000 := by
              have := flat_len (f := encText) (c := 110) (ns := ps.map Prt.t) (fun s hs => encText_lenc (c := 100) (hts s hs) (by decide)) k
              rw [hm2]; simp only [List.length_append, List.length_nil]; omega
            have e8 : m2 ++ encText ps[k].t = ([] : List UInt8) ++ ((ps.map Prt.t).take (k + 1)).flatMap encText := by rw [flat_snoc hk', hm2, List.getElem_map]
            refine sw_skip ?_
            refine sw_seq ?_
            refine sw_block ?_
            refine sl_region ?_
            refine sl_mv rfl rfl rfl ?_
            refine sl_mv rfl rfl rfl ?_
            refine sl_mv rfl rfl rfl ?_
            refine sl_indexAddr' rfl rfl rfl rfl u_64 sz_74 (by omega) (idx_map hk) rfl ?_
            first
              | refine sl_fieldAddr_ptr rfl rfl rfl fo_74_2 ?_
              | refine sl_fieldAddr_rp rfl rfl rfl fo_74_2 ?_
              | refine sl_fieldAddr_ref rfl rfl rfl fo_74_2 ?_
            first
              | refine sl_load_rp1 rfl rfl rfl ag_9 rfl ?_
              | refine sl_load_blk1 rfl rfl rfl ag_9 (by first | exact List.Mem.head _ | exact List.Mem.tail _ (List.Mem.head _) | exact List.Mem.tail _ (List.Mem.tail _ (List.Mem.head _)) | exact List.Mem.tail _ (List.Mem.tail _ (List.Mem.tail _ (List.Mem.head _))) | exact List.Mem.tail _ (List.Mem.tail _ (List.Mem.tail _ (List.Mem.tail _ (List.Mem.head _)))) | exact List.Mem.tail _ (List.Mem.tail _ (List.Mem.tail _ (List.Mem.tail _ (List.Mem.tail _ (List.Mem.head _)))))) rfl ?_
            refine sl_callf rfl rfl cal_39 (xtext_ok y m2 ps[k].t (.blk p [.own v (m.map byteV)] :: .spare v 1 :: .blk p2 [.own x1 ((([] : List UInt8) ++ (ps.map Prt.t).flatMap encText).map byteV)] :: .spare x1 1 :: []) (by have := hlt1.1; omega) (by omega)) ?_ ?_ ?_ (fun _ _ h => h.elim)
            · repeat (first | exact Weaks.nil | refine Weaks.cons (Weak.junk _) ?_ | refine Weaks.cons (Weak.refl _) ?_ | refine Weaks.cons (Weak.toV rfl) ?_ | refine Weaks.cons (Weak.ref _) ?_ | refine Weaks.cons (Weak.rp_agg _) ?_)
            · repeat (first | exact Sub.refl _ | exact Sub.none _ | refine Sub.p0 ?_ | refine Sub.p1 ?_ | refine Sub.p2 ?_ | refine Sub.p3 ?_ | refine Sub.p4 ?_ | refine Sub.p5 ?_ | refine Sub.p6 ?_ | refine Sub.drop ?_)
            rintro _ _ ⟨y2, rfl, rfl⟩
            refine sl_as rfl rfl rfl ?_
            refine sl_nil ?_
            refine sl_region ?_
            refine sl_mv rfl rfl rfl ?_
            first
              | refine sl_inc rfl rfl rfl rfl (by omega) ?_
              | refine sl_add rfl rfl rfl rfl (by constructor <;> omega) ?_
              | refine sl_bin rfl rfl rfl rfl rfl ?_
            refine sl_as rfl rfl rfl ?_
            refine sl_nil ?_
            refine ⟨_, by omega, _, _, ?_, ?_, k + 1, y2, _, rfl, rfl, rfl, rfl, by omega, e8⟩
            · refine ⟨rfl, ?_⟩; repeat (first | exact WkL.nil | refine WkL.cons (Weak.refl _) ?_ | refine WkL.cons (Weak.toV rfl) ?_ | refine WkL.cons (Weak.ref _) ?_ | refine WkL.cons (Weak.rp_agg _) ?_)
            · repeat (first | exact Sub.refl _ | exact Sub.none _ | refine Sub.p0 ?_ | refine Sub.p1 ?_ | refine Sub.p2 ?_ | refine Sub.p3 ?_ | refine Sub.p4 ?_ | refine Sub.p5 ?_ | refine Sub.p6 ?_ | refine Sub.drop ?_)
          · have hk : k = ps.length := by have h9 : ¬ k < ps.length := (by simpa using hk); omega
            subst hk
            rw [show (ps.map Prt.t).take ps.length = ps.map Prt.t by rw [← List.length_map (f := Prt.t), List.take_length]] at hm2
            rw [← hm2]
            have hml2 : m2.length ≤ 20000 := by
              have := flat_allc (f := encText) (c := 110) (ns := ps.map Prt.t) (fun s hs => encText_lenc (c := 100) (hts s hs) (by decide))
              rw [hm2]; simp only [List.length_append, List.length_nil]; omega
            refine sw_exit ?_
            refine sw_seq ?_
            refine sa_start [] mixed ?_
            refine sa_take 0 rfl rfl (by kernel_rfl) (by kernel_rfl) (by kernel_rfl) exacts_nil (pu_mv rfl rfl) ?_
            refine sa_take 1 rfl rfl (by kernel_rfl) (by kernel_rfl) (by kernel_rfl) exacts_nil (pu_nc rfl rfl rfl) ?_
            first
              | refine sa_take 2 rfl rfl (by kernel_rfl) (by kernel_rfl) (by kernel_rfl) exacts_nil (pu_fieldAddr_ptr rfl rfl fo_30_0) ?_
              | refine sa_take 2 rfl rfl (by kernel_rfl) (by kernel_rfl) (by kernel_rfl) exacts_nil (pu_fieldAddr_rp rfl rfl fo_30_0) ?_
              | refine sa_take 2 rfl rfl (by kernel_rfl) (by kernel_rfl) (by kernel_rfl) exacts_nil (pu_fieldAddr_ref rfl rfl fo_30_0) ?_
            refine sa_take 5 rfl rfl (by kernel_rfl) (by kernel_rfl) (by kernel_rfl) exacts_nil (pu_mv rfl rfl) ?_
            refine sa_take 6 rfl rfl (by kernel_rfl) (by kernel_rfl) (by kernel_rfl) exacts_nil (pu_bytes_str rfl rfl u_26 u_5 u_9) ?_
            refine sa_one 3 (by kernel_rfl) rfl ?_
            refine sl_callf rfl rfl cal_19 (bytes_ok p v m (.blk p2 [.own x1 (m2.map byteV)] :: []) (by omega)) ?_ ?_ ?_ (fun _ _ h => h.elim)
            · repeat (first | exact Weaks.nil | refine Weaks.cons (Weak.junk _) ?_ | refine Weaks.cons (Weak.refl _) ?_ | refine Weaks.cons (Weak.toV rfl) ?_ | refine Weaks.cons (Weak.ref _) ?_ | refine Weaks.cons (Weak.rp_agg _) ?_)
            · repeat (first | exact Sub.refl _ | exact Sub.none _ | refine Sub.p0 ?_ | refine Sub.p1 ?_ | refine Sub.p2 ?_ | refine Sub.p3 ?_ | refine Sub.p4 ?_ | refine Sub.p5 ?_ | refine Sub.p6 ?_ | refine Sub.drop ?_)
            rintro _ _ ⟨rfl, rfl⟩
            refine sl_nil ⟨exacts_nil, ?_⟩
            refine sa_take 4 rfl rfl (by kernel_rfl) (by kernel_rfl) (by kernel_rfl) exacts_nil (pu_bytes_str rfl rfl u_26 u_5 u_9) ?_
            refine sa_take 7 rfl rfl (by kernel_rfl) (by kernel_rfl) (by kernel_rfl) exacts_nil (pu_str rfl rfl rfl rfl) ?_
            refine sa_take 8 rfl rfl (by kernel_rfl) (by kernel_rfl) (by kernel_rfl) exacts_nil (pu_mv rfl rfl) ?_
            refine sa_take_y 9 rfl rfl rfl rfl (beq_self_eq_true m) (by kernel_rfl) (by kernel_rfl) (by kernel_rfl) exacts_nil (pu_mv rfl rfl) ?_
            refine sa_take_y 10 rfl rfl rfl rfl (beq_self_eq_true m) (by kernel_rfl) (by kernel_rfl) (by kernel_rfl) exacts_nil (pu_nc rfl rfl rfl) ?_
            first
              | refine sa_take_y 11 rfl rfl rfl rfl (beq_self_eq_true m) (by kernel_rfl) (by kernel_rfl) (by kernel_rfl) exacts_nil (pu_fieldAddr_ptr rfl rfl fo_30_0) ?_
              | refine sa_take_y 11 rfl rfl rfl rfl (beq_self_eq_true m) (by kernel_rfl) (by kernel_rfl) (by kernel_rfl) exacts_nil (pu_fieldAddr_rp rfl rfl fo_30_0) ?_
              | refine sa_take_y 11 rfl rfl rfl rfl (beq_self_eq_true m) (by kernel_rfl) (by kernel_rfl) (by kernel_rfl) exacts_nil (pu_fieldAddr_ref rfl rfl fo_30_0) ?_
            refine sa_take_y 14 rfl rfl rfl rfl (beq_self_eq_true m) (by kernel_rfl) (by kernel_rfl) (by kernel_rfl) exacts_nil (pu_mv rfl rfl) ?_
            refine sa_take_y 15 rfl rfl rfl rfl (beq_self_eq_true m) (by kernel_rfl) (by kernel_rfl) (by kernel_rfl) exacts_nil (pu_bytes_str rfl rfl u_26 u_5 u_9) ?_
            refine sa_one 12 (by kernel_rfl) rfl ?_
            refine sl_guard_y rfl rfl rfl (beq_self_eq_true m) ?_
            refine sl_callf rfl rfl cal_19 (bytes_ok p2 x1 m2 [] (by omega)) ?_ ?_ ?_ (fun _ _ h => h.elim)
            · repeat (first | exact Weaks.nil | refine Weaks.cons (Weak.junk _) ?_ | refine Weaks.cons (Weak.refl _) ?_ | refine Weaks.cons (Weak.toV rfl) ?_ | refine Weaks.cons (Weak.ref _) ?_ | refine Weaks.cons (Weak.rp_agg _) ?_)
            · repeat (first | exact Sub.refl _ | exact Sub.none _ | refine Sub.p0 ?_ | refine Sub.p1 ?_ | refine Sub.p2 ?_ | refine Sub.p3 ?_ | refine Sub.p4 ?_ | refine Sub.p5 ?_ | refine Sub.p6 ?_ | refine Sub.drop ?_)
            rintro _ _ ⟨rfl, rfl⟩
            refine sl_nil ⟨exacts_nil, ?_⟩
            refine sa_take_y 13 rfl rfl rfl rfl (beq_self_eq_true m) (by kernel_rfl) (by kernel_rfl) (by kernel_rfl) exacts_nil (pu_bytes_str rfl rfl u_26 u_5 u_9) ?_
            refine sa_take_y 16 rfl rfl rfl rfl (beq_self_eq_true m) (by kernel_rfl) (by kernel_rfl) (by kernel_rfl) exacts_nil (pu_str rfl rfl rfl rfl) ?_
            refine sa_take 17 rfl rfl (by kernel_rfl) (by kernel_rfl) (by kernel_rfl) exacts_nil (pu_pk_t rfl rfl (beq_self_eq_true m) rfl) ?_
            refine sa_one 18 (by kernel_rfl) rfl ?_
            refine sl_as rfl rfl rfl ?_
            refine sl_nil ⟨exacts_nil, ?_⟩
            refine sa_done (by kernel_rfl) ?_
            refine sw_ret ⟨rfl, _, _, res_one rfl rfl, ?_, ⟨congrArg (fun z => D.val (.bool z)) (beq_self_eq_true m2), rfl⟩⟩
            repeat (first | exact Sub.refl _ | exact Sub.none _ | refine Sub.p0 ?_ | refine Sub.p1 ?_ | refine Sub.p2 ?_ | refine Sub.p3 ?_ | refine Sub.p4 ?_ | refine Sub.p5 ?_ | refine Sub.p6 ?_ | refine Sub.drop ?_)

end Go.Proofs.Ytioechdfghglhaa
