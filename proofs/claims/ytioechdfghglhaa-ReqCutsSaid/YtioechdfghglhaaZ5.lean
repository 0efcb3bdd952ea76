/- Merged: the program logic, plain laws and walks (each part's first row says what it is); no conditions of its own. -/
import Derived.Test.YtioechdfghglhaaZ4
import Derived.Test.YtioechdfghglhaaZ3

/- Walks: printed by a program of this session out of its script CodeK. -/
namespace Go.Proofs.Ytioechdfghglhaa
set_option linter.unusedVariables false
set_option linter.unusedSimpArgs false
set_option maxRecDepth 4000
set_option maxHeartbeats 4000000
open Go Go.RowKit SL


/-- CodeWrites. -/
theorem codeWrites_ok (ps : List Prt) (hok : ∀ p ∈ ps, PrtOk p) : FSpec Try.prog 8 [.val (.list (ps.map prtV))] [] (fun d σ' => d = .val (.bool true) ∧ σ' = []) := by
  refine spec_of_sw Try.func8 rfl ?_
  refine sw_seq ?_
  refine sl_region ?_
  refine sl_as rfl rfl rfl ?_
  refine sl_nil ?_
  refine sw_seq ?_
  refine sw_seq ?_
  refine sl_region ?_
  refine sl_callf rfl rfl cal_15 (known2_ok []) ?_ ?_ ?_ (fun _ _ h => h.elim)
  · repeat constructor
  · repeat constructor
  rintro _ _ ⟨rfl, rfl⟩
  refine sl_not rfl rfl rfl ?_
  refine sl_nil ?_
  refine sw_false rfl (rfl) ?_
  refine sw_skip ?_
  refine sw_seq ?_
  refine sw_seq ?_
  refine sl_region ?_
  refine sl_mv rfl rfl rfl ?_
  refine sl_callf rfl rfl cal_35 (light_ok ps []) ?_ ?_ ?_ (fun _ _ h => h.elim)
  · repeat constructor
  · repeat constructor
  rintro _ _ ⟨b, rfl, hb, rfl⟩
  refine sl_not rfl rfl rfl ?_
  refine sl_nil ?_
  refine sw_cond rfl (fun hnl => ?_) (fun hnl => ?_)
  · refine sw_seq ?_
    refine sl_region ?_
    refine sl_as rfl rfl rfl ?_
    refine sl_nil ?_
    refine sw_ret ⟨rfl, _, _, res_one rfl rfl, ?_, ⟨rfl, rfl⟩⟩
    repeat constructor
  obtain ⟨hn, hlt⟩ := hb (by simpa using hnl)
  refine sw_skip ?_
  refine sw_seq ?_
  refine sl_region ?_
  refine sl_callf rfl rfl cal_16 (newWriter_ok []) ?_ ?_ ?_ (fun _ _ h => h.elim)
  · repeat constructor
  · repeat constructor
  rintro _ _ ⟨p, w0, rfl, rfl⟩
  refine sl_as rfl rfl rfl ?_
  refine sl_nil ?_
  refine sw_seq ?_
  refine sl_region ?_
  refine sl_as rfl rfl rfl ?_
  refine sl_nil ?_
  refine sw_seq ?_
  refine sw_seq ?_
  refine sw_own (t := 4) (sz := 1) rfl (fun u0 => ?_)
  refine sl_region ?_
  refine sl_as rfl rfl rfl ?_
  refine sl_nil ?_
  refine sw_block ?_
  refine sw_loopw (fun nX sX δX σX => ∃ (k : Nat) (v : Value) (u : Value) (m : List UInt8), (ps.length - k) = nX ∧ sX = ⟨130, (.cons 0 (.val (.list (ps.map prtV))) (.cons 3 (.ptr p 0) (.cons 4 (.own u (m.map byteV)) (.cons 5 (.val (.int .i64 (k : Int))) .nil))))⟩ ∧ δX = [] ∧ σX = .blk p [.own v (m.map byteV)] :: .spare v 1 :: .spare u 1 :: [] ∧ (k ≤ ps.length) ∧ (m = ([] : List UInt8) ++ (ps.take k).flatMap encPart)) ?_ ?_
  · refine ⟨_, _, _, ?_, ?_, 0, w0, u0, [], rfl, rfl, rfl, rfl, Nat.zero_le _, by simp⟩
    · exact ⟨rfl, by repeat constructor⟩
    · repeat constructor
  rintro nX sX δX σX ⟨k, v, u, m, rfl, rfl, rfl, rfl, hk0, hm0⟩
  refine sw_seq ?_
  refine sw_seq ?_
  refine sl_region ?_
  refine sl_mv rfl rfl rfl ?_
  refine sl_mv rfl rfl rfl ?_
  first
    | refine sl_len rfl rfl rfl ⟨_, u_64⟩ ?_
    | refine sl_len_sl rfl rfl rfl ⟨_, u_64⟩ ?_
    | refine sl_len_w _ rfl rfl rfl ⟨_, u_64⟩ ?_
  refine sl_bin rfl rfl rfl rfl rfl ?_
  refine sl_nil ?_
  refine sw_cond rfl (fun hk => ?_) (fun hk => ?_)
  · have hk : k < ps.length := by simpa using hk
    have hok1 := hok ps[k] (List.getElem_mem hk)
    have hlt1 := hlt ps[k] (List.getElem_mem hk)
    have hml : m.length ≤ 20000 := by
      have := flat_len (f := encPart) (c := 1100) (ns := ps) (fun p hp => encPart_len (hok p hp) (hlt p hp)) k
      rw [hm0]; simp only [List.length_append, List.length_nil]; omega
    have e8 : m ++ encPart ps[k] = ([] : List UInt8) ++ (ps.take (k + 1)).flatMap encPart := by rw [flat_snoc hk, hm0]
    refine sw_skip ?_
    refine sw_seq ?_
    refine sw_block ?_
    refine sw_seq ?_
    refine sl_region ?_
    refine sl_mv rfl rfl rfl ?_
    refine sl_mv rfl rfl rfl ?_
    refine sl_mv rfl rfl rfl ?_
    refine sl_indexAddr' rfl rfl rfl rfl u_64 sz_74 (by omega) (idx_map hk) rfl ?_
    first
      | refine sl_load_rpn rfl rfl rfl ag_74 sz_74 (Nat.le_of_ble_eq_true rfl) ?_
      | refine sl_load_blkn rfl rfl rfl ag_74 sz_74 (by repeat constructor) (Nat.le_of_ble_eq_true rfl) ?_
      | refine sl_load_ref rfl rfl rfl ag_74 sz_74 (Nat.le_of_ble_eq_true rfl) ?_
    refine sl_callf rfl rfl cal_36 (put_ok u m ps[k] (.blk p [.own v (m.map byteV)] :: .spare v 1 :: []) hok1 hlt1 (by omega)) ?_ ?_ ?_ (fun _ _ h => h.elim)
    · repeat constructor
    · repeat constructor
    rintro _ _ ⟨u2, rfl, rfl⟩
    refine sl_as rfl rfl rfl ?_
    refine sl_nil ?_
    refine sw_seq ?_
    refine sl_region ?_
    refine sl_mv rfl rfl rfl ?_
    refine sl_mv rfl rfl rfl ?_
    refine sl_indexAddr' rfl rfl rfl rfl u_64 sz_74 (by omega) (idx_map hk) rfl ?_
    first
      | refine sl_fieldAddr_ptr rfl rfl rfl fo_74_0 ?_
      | refine sl_fieldAddr_rp rfl rfl rfl fo_74_0 ?_
      | refine sl_fieldAddr_ref rfl rfl rfl fo_74_0 ?_
    first
      | refine sl_load_rp1 rfl rfl rfl ag_5 rfl ?_
      | refine sl_load_blk1 rfl rfl rfl ag_5 (by repeat constructor) rfl ?_
    refine sl_rem rfl rfl rfl rfl (by decide) ?_
    refine sl_set 32 (.val (.int .u8 ((ps[k].what.toNat % 5 : Nat) : Int))) (rem5 ps[k].what) ?_
    refine sl_nil ?_
    refine sw_block ?_
    refine sw_seq ?_
    refine sl_region ?_
    refine sl_bin rfl rfl rfl rfl rfl ?_
    refine sl_as rfl rfl rfl ?_
    refine sl_nil ?_
    refine sw_cond rfl (fun h0 => ?_) (fun h0 => ?_)
    · have e9 : m ++ [ps[k].n].flatMap encNum = m ++ encPart ps[k] := by rw [encPart0 (eq5 h0)]; simp
      refine sa_start [] mixed ?_
      refine sa_take 0 rfl rfl (by kernel_rfl) .nil (pu_mv rfl rfl) ?_
      refine sa_take 1 rfl rfl (by kernel_rfl) .nil (pu_nc rfl rfl rfl) ?_
      first
        | refine sa_take 2 rfl rfl (by kernel_rfl) .nil (pu_fieldAddr_ptr rfl rfl fo_30_0) ?_
        | refine sa_take 2 rfl rfl (by kernel_rfl) .nil (pu_fieldAddr_rp rfl rfl fo_30_0) ?_
        | refine sa_take 2 rfl rfl (by kernel_rfl) .nil (pu_fieldAddr_ref rfl rfl fo_30_0) ?_
      refine sa_take 3 rfl rfl (by kernel_rfl) .nil (pu_mv rfl rfl) ?_
      refine sa_take 4 rfl rfl (by kernel_rfl) .nil (pu_mv rfl rfl) ?_
      refine sa_take 5 rfl rfl (by kernel_rfl) .nil (pu_indexAddr rfl rfl rfl u_64 sz_74 (by omega) (idx_map hk) rfl) ?_
      first
        | refine sa_take 6 rfl rfl (by kernel_rfl) .nil (pu_fieldAddr_ptr rfl rfl fo_74_1) ?_
        | refine sa_take 6 rfl rfl (by kernel_rfl) .nil (pu_fieldAddr_rp rfl rfl fo_74_1) ?_
        | refine sa_take 6 rfl rfl (by kernel_rfl) .nil (pu_fieldAddr_ref rfl rfl fo_74_1) ?_
      refine sa_take 7 rfl rfl (by kernel_rfl) .nil (pu_load_rp1 rfl rfl ag_37 rfl) ?_
      refine sa_one 8 (by kernel_rfl) rfl ?_
      refine sl_bs1 rfl rfl (.cons rfl .nil) u_51 sz_37 zs_37 (by decide) rfl rfl rfl rfl ?_
      refine sl_nil ⟨.nil, ?_⟩
      refine sa_one 9 (by kernel_rfl) rfl ?_
      refine sl_callf rfl rfl cal_28 (num_ok p v m [ps[k].n] (.spare u2 1 :: []) (by intro n hn; rw [List.mem_singleton.mp hn]; exact hok1.1) (by simp only [List.length_cons, List.length_nil]; omega)) ?_ ?_ ?_ (fun _ _ h => h.elim)
      · repeat constructor
      · repeat constructor
      rintro _ _ ⟨rfl, v2, rfl⟩
      refine sl_nil ⟨.nil, ?_⟩
      rw [e9]
      refine sa_done (by kernel_rfl) ?_
      refine sl_region ?_
      refine sl_mv rfl rfl rfl ?_
      first
        | refine sl_inc rfl rfl rfl rfl (by omega) ?_
        | refine sl_add rfl rfl rfl rfl (by constructor <;> omega) ?_
        | refine sl_bin rfl rfl rfl rfl rfl ?_
      refine sl_as rfl rfl rfl ?_
      refine sl_nil ?_
      refine ⟨_, by omega, _, _, ?_, ?_, k + 1, v2, u2, _, rfl, rfl, rfl, rfl, by omega, e8⟩
      · exact ⟨rfl, by repeat constructor⟩
      · repeat constructor
    refine sw_seq ?_
    refine sl_region ?_
    refine sl_bin rfl rfl rfl rfl rfl ?_
    refine sl_as rfl rfl rfl ?_
    refine sl_nil ?_
    refine sw_cond rfl (fun h1 => ?_) (fun h1 => ?_)
    · have e9 : m ++ [IntKind.i64.wrap ps[k].n].flatMap encInt = m ++ encPart ps[k] := by rw [encPart1 (eq5 h1)]; simp
      refine sa_start [] mixed ?_
      refine sa_take 0 rfl rfl (by kernel_rfl) .nil (pu_mv rfl rfl) ?_
      refine sa_take 1 rfl rfl (by kernel_rfl) .nil (pu_nc rfl rfl rfl) ?_
      first
        | refine sa_take 2 rfl rfl (by kernel_rfl) .nil (pu_fieldAddr_ptr rfl rfl fo_30_0) ?_
        | refine sa_take 2 rfl rfl (by kernel_rfl) .nil (pu_fieldAddr_rp rfl rfl fo_30_0) ?_
        | refine sa_take 2 rfl rfl (by kernel_rfl) .nil (pu_fieldAddr_ref rfl rfl fo_30_0) ?_
      refine sa_take 3 rfl rfl (by kernel_rfl) .nil (pu_mv rfl rfl) ?_
      refine sa_take 4 rfl rfl (by kernel_rfl) .nil (pu_mv rfl rfl) ?_
      refine sa_take 5 rfl rfl (by kernel_rfl) .nil (pu_indexAddr rfl rfl rfl u_64 sz_74 (by omega) (idx_map hk) rfl) ?_
      first
        | refine sa_take 6 rfl rfl (by kernel_rfl) .nil (pu_fieldAddr_ptr rfl rfl fo_74_1) ?_
        | refine sa_take 6 rfl rfl (by kernel_rfl) .nil (pu_fieldAddr_rp rfl rfl fo_74_1) ?_
        | refine sa_take 6 rfl rfl (by kernel_rfl) .nil (pu_fieldAddr_ref rfl rfl fo_74_1) ?_
      refine sa_take 7 rfl rfl (by kernel_rfl) .nil (pu_load_rp1 rfl rfl ag_37 rfl) ?_
      refine sa_take 8 rfl rfl (by kernel_rfl) .nil (pu_conv_int rfl rfl is_37 u_2) ?_
      refine sa_one 9 (by kernel_rfl) rfl ?_
      refine sl_bs1 rfl rfl (.cons rfl .nil) u_52 sz_2 zs_2 (by decide) rfl rfl rfl rfl ?_
      refine sl_nil ⟨.nil, ?_⟩
      refine sa_one 10 (by kernel_rfl) rfl ?_
      refine sl_callf rfl rfl cal_17 (int_ok p v m [IntKind.i64.wrap ps[k].n] (.spare u2 1 :: []) (by intro n hn; rw [List.mem_singleton.mp hn]; exact wrap_i64_ok _) (by simp only [List.length_cons, List.length_nil]; omega)) ?_ ?_ ?_ (fun _ _ h => h.elim)
      · repeat constructor
      · repeat constructor
      rintro _ _ ⟨rfl, v2, rfl⟩
      refine sl_nil ⟨.nil, ?_⟩
      rw [e9]
      refine sa_done (by kernel_rfl) ?_
      refine sl_region ?_
      refine sl_mv rfl rfl rfl ?_
      first
        | refine sl_inc rfl rfl rfl rfl (by omega) ?_
        | refine sl_add rfl rfl rfl rfl (by constructor <;> omega) ?_
        | refine sl_bin rfl rfl rfl rfl rfl ?_
      refine sl_as rfl rfl rfl ?_
      refine sl_nil ?_
      refine ⟨_, by omega, _, _, ?_, ?_, k + 1, v2, u2, _, rfl, rfl, rfl, rfl, by omega, e8⟩
      · exact ⟨rfl, by repeat constructor⟩
      · repeat constructor
    refine sw_seq ?_
    refine sl_region ?_
    refine sl_bin rfl rfl rfl rfl rfl ?_
    refine sl_as rfl rfl rfl ?_
    refine sl_nil ?_
    refine sw_cond rfl (fun h2 => ?_) (fun h2 => ?_)
    · have e9 : m ++ [ps[k].t].flatMap encText = m ++ encPart ps[k] := by rw [encPart2 (eq5 h2)]; simp
      refine sa_start [] mixed ?_
      refine sa_take 0 rfl rfl (by kernel_rfl) .nil (pu_mv rfl rfl) ?_
      refine sa_take 1 rfl rfl (by kernel_rfl) .nil (pu_nc rfl rfl rfl) ?_
      first
        | refine sa_take 2 rfl rfl (by kernel_rfl) .nil (pu_fieldAddr_ptr rfl rfl fo_30_0) ?_
        | refine sa_take 2 rfl rfl (by kernel_rfl) .nil (pu_fieldAddr_rp rfl rfl fo_30_0) ?_
        | refine sa_take 2 rfl rfl (by kernel_rfl) .nil (pu_fieldAddr_ref rfl rfl fo_30_0) ?_
      refine sa_take 3 rfl rfl (by kernel_rfl) .nil (pu_mv rfl rfl) ?_
      refine sa_take 4 rfl rfl (by kernel_rfl) .nil (pu_mv rfl rfl) ?_
      refine sa_take 5 rfl rfl (by kernel_rfl) .nil (pu_indexAddr rfl rfl rfl u_64 sz_74 (by omega) (idx_map hk) rfl) ?_
      first
        | refine sa_take 6 rfl rfl (by kernel_rfl) .nil (pu_fieldAddr_ptr rfl rfl fo_74_2) ?_
        | refine sa_take 6 rfl rfl (by kernel_rfl) .nil (pu_fieldAddr_rp rfl rfl fo_74_2) ?_
        | refine sa_take 6 rfl rfl (by kernel_rfl) .nil (pu_fieldAddr_ref rfl rfl fo_74_2) ?_
      refine sa_take 7 rfl rfl (by kernel_rfl) .nil (pu_load_rp1 rfl rfl ag_9 rfl) ?_
      refine sa_one 8 (by kernel_rfl) rfl ?_
      refine sl_bs1 rfl rfl (.cons rfl .nil) u_53 sz_9 zs_9 (by decide) rfl rfl rfl rfl ?_
      refine sl_nil ⟨.nil, ?_⟩
      refine sa_one 9 (by kernel_rfl) rfl ?_
      refine sl_callf rfl rfl cal_29 (text_ok p v m [ps[k].t] 100 (.spare u2 1 :: []) (by intro n hn; rw [List.mem_singleton.mp hn]; exact hlt1.1) (by simp only [List.length_cons, List.length_nil]; omega)) ?_ ?_ ?_ (fun _ _ h => h.elim)
      · repeat constructor
      · repeat constructor
      rintro _ _ ⟨rfl, v2, rfl⟩
      refine sl_nil ⟨.nil, ?_⟩
      rw [e9]
      refine sa_done (by kernel_rfl) ?_
      refine sl_region ?_
      refine sl_mv rfl rfl rfl ?_
      first
        | refine sl_inc rfl rfl rfl rfl (by omega) ?_
        | refine sl_add rfl rfl rfl rfl (by constructor <;> omega) ?_
        | refine sl_bin rfl rfl rfl rfl rfl ?_
      refine sl_as rfl rfl rfl ?_
      refine sl_nil ?_
      refine ⟨_, by omega, _, _, ?_, ?_, k + 1, v2, u2, _, rfl, rfl, rfl, rfl, by omega, e8⟩
      · exact ⟨rfl, by repeat constructor⟩
      · repeat constructor
    refine sw_seq ?_
    refine sl_region ?_
    refine sl_bin rfl rfl rfl rfl rfl ?_
    refine sl_as rfl rfl rfl ?_
    refine sl_nil ?_
    refine sw_cond rfl (fun h3 => ?_) (fun h3 => ?_)
    · have e9 : m ++ [ps[k].n % 2 == 1].flatMap encBool = m ++ encPart ps[k] := by rw [encPart3 (eq5 h3)]; simp
      refine sa_start [] mixed ?_
      refine sa_take 0 rfl rfl (by kernel_rfl) .nil (pu_mv rfl rfl) ?_
      refine sa_take 1 rfl rfl (by kernel_rfl) .nil (pu_nc rfl rfl rfl) ?_
      first
        | refine sa_take 2 rfl rfl (by kernel_rfl) .nil (pu_fieldAddr_ptr rfl rfl fo_30_0) ?_
        | refine sa_take 2 rfl rfl (by kernel_rfl) .nil (pu_fieldAddr_rp rfl rfl fo_30_0) ?_
        | refine sa_take 2 rfl rfl (by kernel_rfl) .nil (pu_fieldAddr_ref rfl rfl fo_30_0) ?_
      refine sa_take 3 rfl rfl (by kernel_rfl) .nil (pu_mv rfl rfl) ?_
      refine sa_take 4 rfl rfl (by kernel_rfl) .nil (pu_mv rfl rfl) ?_
      refine sa_take 5 rfl rfl (by kernel_rfl) .nil (pu_indexAddr rfl rfl rfl u_64 sz_74 (by omega) (idx_map hk) rfl) ?_
      first
        | refine sa_take 6 rfl rfl (by kernel_rfl) .nil (pu_fieldAddr_ptr rfl rfl fo_74_1) ?_
        | refine sa_take 6 rfl rfl (by kernel_rfl) .nil (pu_fieldAddr_rp rfl rfl fo_74_1) ?_
        | refine sa_take 6 rfl rfl (by kernel_rfl) .nil (pu_fieldAddr_ref rfl rfl fo_74_1) ?_
      refine sa_take 7 rfl rfl (by kernel_rfl) .nil (pu_load_rp1 rfl rfl ag_37 rfl) ?_
      refine sa_take 8 rfl rfl (by kernel_rfl) .nil (pu_rem rfl rfl rfl (by decide)) ?_
      refine sa_take 9 rfl rfl (by kernel_rfl) .nil (pu_bin rfl rfl rfl rfl) ?_
      refine sa_set 89 (.val (boolV (ps[k].n % 2 == 1))) (odd_bool ps[k].n) ?_
      refine sa_one 10 (by kernel_rfl) rfl ?_
      refine sl_bs1 rfl rfl (.cons rfl .nil) u_54 sz_4 zs_4 (by decide) rfl rfl rfl rfl ?_
      refine sl_nil ⟨.nil, ?_⟩
      refine sa_one 11 (by kernel_rfl) rfl ?_
      refine sl_callf rfl rfl cal_30 (bool_ok p v m [ps[k].n % 2 == 1] (.spare u2 1 :: []) (by simp only [List.length_cons, List.length_nil]; omega)) ?_ ?_ ?_ (fun _ _ h => h.elim)
      · repeat constructor
      · repeat constructor
      rintro _ _ ⟨rfl, v2, rfl⟩
      refine sl_nil ⟨.nil, ?_⟩
      rw [e9]
      refine sa_done (by kernel_rfl) ?_
      refine sl_region ?_
      refine sl_mv rfl rfl rfl ?_
      first
        | refine sl_inc rfl rfl rfl rfl (by omega) ?_
        | refine sl_add rfl rfl rfl rfl (by constructor <;> omega) ?_
        | refine sl_bin rfl rfl rfl rfl rfl ?_
      refine sl_as rfl rfl rfl ?_
      refine sl_nil ?_
      refine ⟨_, by omega, _, _, ?_, ?_, k + 1, v2, u2, _, rfl, rfl, rfl, rfl, by omega, e8⟩
      · exact ⟨rfl, by repeat constructor⟩
      · repeat constructor
    have e9 : m ++ [ps[k].s].flatMap encSumm = m ++ encPart ps[k] := by rw [encPart4 (ne5 h0) (ne5 h1) (ne5 h2) (ne5 h3)]; simp
    refine sl_region ?_
    refine sl_mv rfl rfl rfl ?_
    refine sl_mv rfl rfl rfl ?_
    refine sl_mv rfl rfl rfl ?_
    refine sl_indexAddr' rfl rfl rfl rfl u_64 sz_74 (by omega) (idx_map hk) rfl ?_
    first
      | refine sl_fieldAddr_ptr rfl rfl rfl fo_74_3 ?_
      | refine sl_fieldAddr_rp rfl rfl rfl fo_74_3 ?_
      | refine sl_fieldAddr_ref rfl rfl rfl fo_74_3 ?_
    first
      | refine sl_load_rpn rfl rfl rfl ag_72 sz_72 (Nat.le_of_ble_eq_true rfl) ?_
      | refine sl_load_blkn rfl rfl rfl ag_72 sz_72 (by repeat constructor) (Nat.le_of_ble_eq_true rfl) ?_
      | refine sl_load_ref rfl rfl rfl ag_72 sz_72 (Nat.le_of_ble_eq_true rfl) ?_
    refine sl_bsn ([smyV ps[k].s]) rfl rfl (.cons rfl .nil) u_124 sz_72 zs_72 (by decide) rfl rfl rfl (SzI.get (by repeat constructor)) ?_
    refine sl_callf rfl rfl cal_37 (wsumm_ok p v m [ps[k].s] (.spare u2 1 :: []) (by intro s hs; rw [List.mem_singleton.mp hs]; exact hok1.2) (by intro s hs; rw [List.mem_singleton.mp hs]; exact hlt1.2) (by simp only [List.length_cons, List.length_nil]; omega)) ?_ ?_ ?_ (fun _ _ h => h.elim)
    · repeat constructor
    · repeat constructor
    rintro _ _ ⟨rfl, v2, rfl⟩
    rw [e9]
    refine sl_nil ?_
    refine sl_region ?_
    refine sl_mv rfl rfl rfl ?_
    first
      | refine sl_inc rfl rfl rfl rfl (by omega) ?_
      | refine sl_add rfl rfl rfl rfl (by constructor <;> omega) ?_
      | refine sl_bin rfl rfl rfl rfl rfl ?_
    refine sl_as rfl rfl rfl ?_
    refine sl_nil ?_
    refine ⟨_, by omega, _, _, ?_, ?_, k + 1, v2, u2, _, rfl, rfl, rfl, rfl, by omega, e8⟩
    · exact ⟨rfl, by repeat constructor⟩
    · repeat constructor
  have hk : k = ps.length := by have h9 : ¬ k < ps.length := (by simpa using hk); omega
  subst hk
  rw [List.take_length] at hm0
  have hml : m.length ≤ 20000 := by
    have := flat_allc (f := encPart) (c := 1100) (ns := ps) (fun p hp => encPart_len (hok p hp) (hlt p hp))
    rw [hm0]; simp only [List.length_append, List.length_nil]; omega
  have hts : ∀ s ∈ ps.map Prt.t, s.length ≤ 100 := by
    intro s hs
    obtain ⟨q, hq, rfl⟩ := List.mem_map.mp hs
    exact (hlt q hq).1
  have hnl2 : (ps.map Prt.t).length ≤ 12 := by rw [List.length_map]; exact hn
  refine sw_exit ?_
  refine sw_seq ?_
  refine sl_region ?_
  refine sl_callf rfl rfl cal_16 (newWriter_ok (.blk p [.own v (m.map byteV)] :: .spare v 1 :: .spare u 1 :: [])) ?_ ?_ ?_ (fun _ _ h => h.elim)
  · repeat constructor
  · repeat constructor
  rintro _ _ ⟨p2, x0, rfl, rfl⟩
  refine sl_as rfl rfl rfl ?_
  refine sl_nil ?_
  refine sw_seq ?_
  refine sa_start [] mixed ?_
  refine sa_take 0 rfl rfl (by kernel_rfl) .nil (pu_mv rfl rfl) ?_
  refine sa_take 1 rfl rfl (by kernel_rfl) .nil (pu_nc rfl rfl rfl) ?_
  first
    | refine sa_take 2 rfl rfl (by kernel_rfl) .nil (pu_fieldAddr_ptr rfl rfl fo_30_0) ?_
    | refine sa_take 2 rfl rfl (by kernel_rfl) .nil (pu_fieldAddr_rp rfl rfl fo_30_0) ?_
    | refine sa_take 2 rfl rfl (by kernel_rfl) .nil (pu_fieldAddr_ref rfl rfl fo_30_0) ?_
  refine sa_take 3 rfl rfl (by kernel_rfl) .nil (pu_mv rfl rfl) ?_
  refine sa_one 4 (by kernel_rfl) rfl ?_
  refine sl_callf rfl rfl cal_38 (l2_ok ps (.blk p2 [.own x0 (([] : List UInt8).map byteV)] :: .spare x0 1 :: .blk p [.own v (m.map byteV)] :: .spare v 1 :: .spare u 1 :: []) hn) ?_ ?_ ?_ (fun _ _ h => h.elim)
  · repeat constructor
  · repeat constructor
  rintro _ _ ⟨rfl, rfl⟩
  refine sl_nil ⟨.nil, ?_⟩
  refine sa_one 5 (by kernel_rfl) rfl ?_
  refine sl_callf rfl rfl cal_29 (text_ok p2 x0 [] (ps.map Prt.t) 100 (.blk p [.own v (m.map byteV)] :: .spare v 1 :: .spare u 1 :: []) hts (by simp only [List.length_nil]; omega)) ?_ ?_ ?_ (fun _ _ h => h.elim)
  · repeat constructor
  · repeat constructor
  rintro _ _ ⟨rfl, x1, rfl⟩
  refine sl_nil ⟨.nil, ?_⟩
  refine sa_done (by kernel_rfl) ?_
  refine sw_seq ?_
  refine sl_region ?_
  refine sl_as rfl rfl rfl ?_
  refine sl_nil ?_
  refine sw_seq ?_
  refine sw_seq ?_
  refine sw_own (t := 7) (sz := 1) rfl (fun y0 => ?_)
  refine sl_region ?_
  refine sl_as rfl rfl rfl ?_
  refine sl_nil ?_
  refine sw_block ?_
  refine sw_loopw (fun nX sX δX σX => ∃ (k : Nat) (y : Value) (m2 : List UInt8), (ps.length - k) = nX ∧ sX = ⟨130, (.cons 0 (.val (.list (ps.map prtV))) (.cons 3 (.ptr p 0) (.cons 4 (.own u (m.map byteV)) (.cons 6 (.ptr p2 0) (.cons 7 (.own y (m2.map byteV)) (.cons 8 (.val (.int .i64 (k : Int))) .nil))))))⟩ ∧ δX = [] ∧ σX = .spare y 1 :: .blk p [.own v (m.map byteV)] :: .spare v 1 :: .blk p2 [.own x1 ((([] : List UInt8) ++ (ps.map Prt.t).flatMap encText).map byteV)] :: .spare x1 1 :: [] ∧ (k ≤ ps.length) ∧ (m2 = ([] : List UInt8) ++ ((ps.map Prt.t).take k).flatMap encText)) ?_ ?_
  · refine ⟨_, _, _, ?_, ?_, 0, y0, [], rfl, rfl, rfl, rfl, Nat.zero_le _, by simp⟩
    · exact ⟨rfl, by repeat constructor⟩
    · repeat constructor
  rintro nX sX δX σX ⟨k, y, m2, rfl, rfl, rfl, rfl, hk0, hm2⟩
  refine sw_seq ?_
  refine sw_seq ?_
  refine sl_region ?_
  refine sl_mv rfl rfl rfl ?_
  refine sl_mv rfl rfl rfl ?_
  first
    | refine sl_len rfl rfl rfl ⟨_, u_64⟩ ?_
    | refine sl_len_sl rfl rfl rfl ⟨_, u_64⟩ ?_
    | refine sl_len_w _ rfl rfl rfl ⟨_, u_64⟩ ?_
  refine sl_bin rfl rfl rfl rfl rfl ?_
  refine sl_nil ?_
  refine sw_cond rfl (fun hk => ?_) (fun hk => ?_)
  · have hk : k < ps.length := by simpa using hk
    have hk' : k < (ps.map Prt.t).length := by rw [List.length_map]; exact hk
    have hlt1 := hlt ps[k] (List.getElem_mem hk)
    have hml2 : m2.length ≤ 20000 := by
      have := flat_len (f := encText) (c := 110) (ns := ps.map Prt.t) (fun s hs => encText_lenc (c := 100) (hts s hs) (by decide)) k
      rw [hm2]; simp only [List.length_append, List.length_nil]; omega
    have e8 : m2 ++ encText ps[k].t = ([] : List UInt8) ++ ((ps.map Prt.t).take (k + 1)).flatMap encText := by rw [flat_snoc hk', hm2, List.getElem_map]
    refine sw_skip ?_
    refine sw_seq ?_
    refine sw_block ?_
    refine sl_region ?_
    refine sl_mv rfl rfl rfl ?_
    refine sl_mv rfl rfl rfl ?_
    refine sl_mv rfl rfl rfl ?_
    refine sl_indexAddr' rfl rfl rfl rfl u_64 sz_74 (by omega) (idx_map hk) rfl ?_
    first
      | refine sl_fieldAddr_ptr rfl rfl rfl fo_74_2 ?_
      | refine sl_fieldAddr_rp rfl rfl rfl fo_74_2 ?_
      | refine sl_fieldAddr_ref rfl rfl rfl fo_74_2 ?_
    first
      | refine sl_load_rp1 rfl rfl rfl ag_9 rfl ?_
      | refine sl_load_blk1 rfl rfl rfl ag_9 (by repeat constructor) rfl ?_
    refine sl_callf rfl rfl cal_39 (xtext_ok y m2 ps[k].t (.blk p [.own v (m.map byteV)] :: .spare v 1 :: .blk p2 [.own x1 ((([] : List UInt8) ++ (ps.map Prt.t).flatMap encText).map byteV)] :: .spare x1 1 :: []) (by have := hlt1.1; omega) (by omega)) ?_ ?_ ?_ (fun _ _ h => h.elim)
    · repeat constructor
    · repeat constructor
    rintro _ _ ⟨y2, rfl, rfl⟩
    refine sl_as rfl rfl rfl ?_
    refine sl_nil ?_
    refine sl_region ?_
    refine sl_mv rfl rfl rfl ?_
    first
      | refine sl_inc rfl rfl rfl rfl (by omega) ?_
      | refine sl_add rfl rfl rfl rfl (by constructor <;> omega) ?_
      | refine sl_bin rfl rfl rfl rfl rfl ?_
    refine sl_as rfl rfl rfl ?_
    refine sl_nil ?_
    refine ⟨_, by omega, _, _, ?_, ?_, k + 1, y2, _, rfl, rfl, rfl, rfl, by omega, e8⟩
    · exact ⟨rfl, by repeat constructor⟩
    · repeat constructor
  have hk : k = ps.length := by have h9 : ¬ k < ps.length := (by simpa using hk); omega
  subst hk
  rw [show (ps.map Prt.t).take ps.length = ps.map Prt.t by rw [← List.length_map (f := Prt.t), List.take_length]] at hm2
  rw [← hm2]
  have hml2 : m2.length ≤ 20000 := by
    have := flat_allc (f := encText) (c := 110) (ns := ps.map Prt.t) (fun s hs => encText_lenc (c := 100) (hts s hs) (by decide))
    rw [hm2]; simp only [List.length_append, List.length_nil]; omega
  refine sw_exit ?_
  refine sw_seq ?_
  refine sa_start [] mixed ?_
  refine sa_take 0 rfl rfl (by kernel_rfl) .nil (pu_mv rfl rfl) ?_
  refine sa_take 1 rfl rfl (by kernel_rfl) .nil (pu_nc rfl rfl rfl) ?_
  first
    | refine sa_take 2 rfl rfl (by kernel_rfl) .nil (pu_fieldAddr_ptr rfl rfl fo_30_0) ?_
    | refine sa_take 2 rfl rfl (by kernel_rfl) .nil (pu_fieldAddr_rp rfl rfl fo_30_0) ?_
    | refine sa_take 2 rfl rfl (by kernel_rfl) .nil (pu_fieldAddr_ref rfl rfl fo_30_0) ?_
  refine sa_take 5 rfl rfl (by kernel_rfl) .nil (pu_mv rfl rfl) ?_
  refine sa_take 6 rfl rfl (by kernel_rfl) .nil (pu_bytes_str rfl rfl u_26 u_5 u_9) ?_
  refine sa_one 3 (by kernel_rfl) rfl ?_
  refine sl_callf rfl rfl cal_19 (bytes_ok p v m (.blk p2 [.own x1 (m2.map byteV)] :: []) (by omega)) ?_ ?_ ?_ (fun _ _ h => h.elim)
  · repeat constructor
  · repeat constructor
  rintro _ _ ⟨rfl, rfl⟩
  refine sl_nil ⟨.nil, ?_⟩
  refine sa_take 4 rfl rfl (by kernel_rfl) .nil (pu_bytes_str rfl rfl u_26 u_5 u_9) ?_
  refine sa_take 7 rfl rfl (by kernel_rfl) .nil (pu_str rfl rfl rfl rfl) ?_
  refine sa_take 8 rfl rfl (by kernel_rfl) .nil (pu_mv rfl rfl) ?_
  refine sa_take_y 9 rfl rfl rfl rfl (beq_self_eq_true m) (by kernel_rfl) .nil (pu_mv rfl rfl) ?_
  refine sa_take_y 10 rfl rfl rfl rfl (beq_self_eq_true m) (by kernel_rfl) .nil (pu_nc rfl rfl rfl) ?_
  first
    | refine sa_take_y 11 rfl rfl rfl rfl (beq_self_eq_true m) (by kernel_rfl) .nil (pu_fieldAddr_ptr rfl rfl fo_30_0) ?_
    | refine sa_take_y 11 rfl rfl rfl rfl (beq_self_eq_true m) (by kernel_rfl) .nil (pu_fieldAddr_rp rfl rfl fo_30_0) ?_
    | refine sa_take_y 11 rfl rfl rfl rfl (beq_self_eq_true m) (by kernel_rfl) .nil (pu_fieldAddr_ref rfl rfl fo_30_0) ?_
  refine sa_take_y 14 rfl rfl rfl rfl (beq_self_eq_true m) (by kernel_rfl) .nil (pu_mv rfl rfl) ?_
  refine sa_take_y 15 rfl rfl rfl rfl (beq_self_eq_true m) (by kernel_rfl) .nil (pu_bytes_str rfl rfl u_26 u_5 u_9) ?_
  refine sa_one 12 (by kernel_rfl) rfl ?_
  refine sl_guard_y rfl rfl rfl (beq_self_eq_true m) ?_
  refine sl_callf rfl rfl cal_19 (bytes_ok p2 x1 m2 [] (by omega)) ?_ ?_ ?_ (fun _ _ h => h.elim)
  · repeat constructor
  · repeat constructor
  rintro _ _ ⟨rfl, rfl⟩
  refine sl_nil ⟨.nil, ?_⟩
  refine sa_take_y 13 rfl rfl rfl rfl (beq_self_eq_true m) (by kernel_rfl) .nil (pu_bytes_str rfl rfl u_26 u_5 u_9) ?_
  refine sa_take_y 16 rfl rfl rfl rfl (beq_self_eq_true m) (by kernel_rfl) .nil (pu_str rfl rfl rfl rfl) ?_
  refine sa_take 17 rfl rfl (by kernel_rfl) .nil (pu_pk_t rfl rfl (beq_self_eq_true m) rfl) ?_
  refine sa_one 18 (by kernel_rfl) rfl ?_
  refine sl_as rfl rfl rfl ?_
  refine sl_nil ⟨.nil, ?_⟩
  refine sa_done (by kernel_rfl) ?_
  refine sw_ret ⟨rfl, _, _, res_one rfl rfl, ?_, ⟨congrArg (fun z => D.val (.bool z)) (beq_self_eq_true m2), rfl⟩⟩
  repeat constructor

end Go.Proofs.Ytioechdfghglhaa

/- Walks: printed by a program of this session out of its script CodeL. -/
namespace Go.Proofs.Ytioechdfghglhaa
set_option linter.unusedVariables false
set_option linter.unusedSimpArgs false
set_option maxRecDepth 4000
set_option maxHeartbeats 4000000
open Go Go.RowKit SL


theorem cov_ivl (n : Nat) : Covers Try.prog n 69 fun xs => ∃ i : Ivl, xs = (ivlV i).cells ∧ IvlOk i := by
  cases n with
  | zero => exact covers_zero
  | succ n =>
    refine (covers_struct Try.underlying69 (Ss := [fun xs => ∃ a : Bool, xs = (boolV a).cells ∧ True, fun xs => ∃ a : Int, xs = (i64V a).cells ∧ isI64 a, fun xs => ∃ a : Int, xs = (i64V a).cells ∧ isI64 a])
      ⟨rfl, cov_bool Try.underlying4 n, by kernel_rfl, cov_i64 Try.underlying2 n, by kernel_rfl, cov_i64 Try.underlying2 n, show (_ : Nat) = _ by kernel_rfl⟩).mono fun xs h => ?_
    obtain ⟨_, _, rfl, ⟨b, rfl, _⟩, _, _, rfl, ⟨lo, rfl, h1⟩, _, _, rfl, ⟨hi, rfl, h2⟩, rfl⟩ := h
    exact ⟨⟨b, lo, hi⟩, rfl, h1, h2⟩

theorem cov_alm (n : Nat) : Covers Try.prog n 86 fun xs => ∃ a : Alm, xs = (almV a).cells ∧ AlmOk a := by
  cases n with
  | zero => exact covers_zero
  | succ n =>
    refine (covers_struct Try.underlying86 (Ss := [fun xs => ∃ a : Int, xs = (i64V a).cells ∧ isI64 a, fun xs => ∃ a : Int, xs = (i64V a).cells ∧ isI64 a])
      ⟨rfl, cov_i64 Try.underlying3 n, by kernel_rfl, cov_i64 Try.underlying3 n, show (_ : Nat) = _ by kernel_rfl⟩).mono fun xs h => ?_
    obtain ⟨_, _, rfl, ⟨lo, rfl, h1⟩, _, _, rfl, ⟨hi, rfl, h2⟩, rfl⟩ := h
    exact ⟨⟨lo, hi⟩, rfl, h1, h2⟩

theorem cov_nmd (n : Nat) : Covers Try.prog n 127 fun xs => ∃ a : Nmd, xs = (nmdV a).cells ∧ IvlOk a.v := by
  cases n with
  | zero => exact covers_zero
  | succ n =>
    refine (covers_struct Try.underlying127 (Ss := [fun xs => ∃ a : List UInt8, xs = (strV a).cells ∧ a.length ≤ maxLen, fun xs => ∃ i : Ivl, xs = (ivlV i).cells ∧ IvlOk i])
      ⟨rfl, cov_str Try.underlying9 n, by kernel_rfl, cov_ivl n, show (_ : Nat) = _ by kernel_rfl⟩).mono fun xs h => ?_
    obtain ⟨_, _, rfl, ⟨s, rfl, _⟩, _, _, rfl, ⟨i, rfl, h2⟩, rfl⟩ := h
    exact ⟨⟨s, i⟩, rfl, h2⟩

theorem cov_alms (n : Nat) : Covers Try.prog n 67 fun xs => ∃ al : List Alm, xs = [.list (al.map almV)] ∧ (∀ a ∈ al, AlmOk a) ∧ al.length ≤ maxLen :=
  cov_list (sz := 2) almV .agg (fun _ => rfl) Try.underlying67 (by kernel_rfl) (by decide) cov_alm n
theorem cov_nmds (n : Nat) : Covers Try.prog n 70 fun xs => ∃ al : List Nmd, xs = [.list (al.map nmdV)] ∧ (∀ a ∈ al, IvlOk a.v) ∧ al.length ≤ maxLen :=
  cov_list (sz := 4) nmdV .agg (fun _ => rfl) Try.underlying70 (by kernel_rfl) (by decide) cov_nmd n

theorem cov_smy (n : Nat) : Covers Try.prog n 72 fun xs => ∃ a : Smy, xs = (smyV a).cells ∧ SmyOk a := by
  cases n with
  | zero => exact covers_zero
  | succ n =>
    refine (covers_struct Try.underlying72 (Ss := [fun xs => ∃ al : List Alm, xs = [.list (al.map almV)] ∧ (∀ a ∈ al, AlmOk a) ∧ al.length ≤ maxLen, fun xs => ∃ a : Bool, xs = (boolV a).cells ∧ True,
        fun xs => ∃ i : Ivl, xs = (ivlV i).cells ∧ IvlOk i, fun xs => ∃ al : List Nmd, xs = [.list (al.map nmdV)] ∧ (∀ a ∈ al, IvlOk a.v) ∧ al.length ≤ maxLen])
      ⟨rfl, cov_alms n, by kernel_rfl, cov_bool Try.underlying4 n, by kernel_rfl, cov_ivl n, by kernel_rfl, cov_nmds n, show (_ : Nat) = _ by kernel_rfl⟩).mono fun xs h => ?_
    obtain ⟨_, _, rfl, ⟨al, rfl, h1, _⟩, _, _, rfl, ⟨b, rfl, _⟩, _, _, rfl, ⟨i, rfl, h2⟩, _, _, rfl, ⟨ml, rfl, h3, _⟩, rfl⟩ := h
    exact ⟨⟨al, b, i, ml⟩, rfl, h1, h2, h3⟩

theorem cov_prt (n : Nat) : Covers Try.prog n 74 fun xs => ∃ a : Prt, xs = (prtV a).cells ∧ PrtOk a := by
  cases n with
  | zero => exact covers_zero
  | succ n =>
    refine (covers_struct Try.underlying74 (Ss := [fun xs => ∃ a : UInt8, xs = (byteV a).cells ∧ True, fun xs => ∃ a : Nat, xs = (u64V a).cells ∧ a < 18446744073709551616,
        fun xs => ∃ a : List UInt8, xs = (strV a).cells ∧ a.length ≤ maxLen, fun xs => ∃ a : Smy, xs = (smyV a).cells ∧ SmyOk a])
      ⟨rfl, cov_u8 Try.underlying5 n, by kernel_rfl, cov_u64 Try.underlying37 n, by kernel_rfl, cov_str Try.underlying9 n, by kernel_rfl, cov_smy n, show (_ : Nat) = _ by kernel_rfl⟩).mono fun xs h => ?_
    obtain ⟨_, _, rfl, ⟨w, rfl, _⟩, _, _, rfl, ⟨k, rfl, h1⟩, _, _, rfl, ⟨s, rfl, _⟩, _, _, rfl, ⟨y, rfl, h2⟩, rfl⟩ := h
    exact ⟨⟨w, k, s, y⟩, rfl, h1, h2⟩

theorem cov_prts {t : TypeId} (ht : Try.prog.underlying t = some (.slice 74)) (he : (0 : Nat) = 0) (hc : Try.prog.cellsOf 74 = 9) (n : Nat) :
    Covers Try.prog n t fun xs => ∃ al : List Prt, xs = [.list (al.map prtV)] ∧ (∀ a ∈ al, PrtOk a) ∧ al.length ≤ maxLen :=
  cov_list prtV .agg (fun _ => rfl) ht hc (by decide) cov_prt n

end Go.Proofs.Ytioechdfghglhaa

/- Walks: printed by a program of this session out of its script CodeM. -/
namespace Go.Proofs.Ytioechdfghglhaa
set_option linter.unusedVariables false
set_option linter.unusedSimpArgs false
set_option maxRecDepth 4000
set_option maxHeartbeats 4000000
open Go Go.RowKit SL


theorem num9 {l : List UInt8} {i : Nat} (h : i < l.length) (h9 : i = 9) : D.val (.bool (decide ((l[i].toNat : Int) > 1))) = .val (.bool (numStop l i)) := by
  by_cases h1 : l[i].toNat ≤ 1
  · exact numStop_f (decide_eq_false (by omega)) ⟨h, .inr ⟨h9, by rw [getD_at h]; exact h1⟩⟩
  · exact numStop_t (decide_eq_true (by omega)) (fun hg => by have := hg.2; rw [getD_at h] at this; omega)

/-- The document's reader: a number. -/
theorem ynum_good (q : Nat) (l : List UInt8) (σ : List Chunk) (hl : l.length ≤ 100000000) :
    FSpec Try.prog 40 [.ptr q 0] (rd q l false :: σ) (fun d σ' => d = .val (u64V (rdOf (decN 0) 0 (some l)).1) ∧ ∃ c', Rdr q (rdOf (decN 0) 0 (some l)).2 c' ∧ σ' = c' :: σ) := by
  refine spec_of_sw Try.func40 rfl ?_
  refine sw_seq ?_
  refine sl_region ?_
  refine sl_as rfl rfl rfl ?_
  refine sl_nil ?_
  refine sw_seq ?_
  refine sl_region ?_
  refine sl_as rfl rfl rfl ?_
  refine sl_as rfl rfl rfl ?_
  refine sl_nil ?_
  refine sw_seq ?_
  refine sw_seq ?_
  refine sl_region ?_
  refine sl_as rfl rfl rfl ?_
  refine sl_nil ?_
  refine sw_block ?_
  refine sw_loopw (fun nX sX δX σX => ∃ (i n : Nat), (11 - i) = nX ∧ sX = ⟨77, (.cons 0 (.ptr q 0) (.cons 3 (.val (.int .u64 (n : Int))) (.cons 4 (.val (.int .i64 ((7 * i : Nat) : Int))) (.cons 5 (.val (.int .i64 (i : Int))) .nil))))⟩ ∧ δX = [] ∧ σX = rd q l false :: σ ∧ (i ≤ 10) ∧ (n < 128 ^ i) ∧ (decN 0 l = (decN i (l.drop i)).map fun p => (n + 128 ^ i * p.1, p.2))) ?_ ?_
  · refine ⟨_, _, _, ?_, ?_, 0, 0, rfl, rfl, rfl, rfl, Nat.zero_le _, by decide, start_dec l⟩
    · exact ⟨rfl, by repeat constructor⟩
    · repeat constructor
  rintro nX sX δX σX ⟨i, n, rfl, rfl, rfl, rfl, hi, hn, hd⟩
  refine sw_seq ?_
  refine sw_seq ?_
  refine sl_region ?_
  refine sl_mv rfl rfl rfl ?_
  refine sl_nc rfl rfl rfl rfl ?_
  first
    | refine sl_fieldAddr_ptr rfl rfl rfl fo_80_1 ?_
    | refine sl_fieldAddr_rp rfl rfl rfl fo_80_1 ?_
    | refine sl_fieldAddr_ref rfl rfl rfl fo_80_1 ?_
  first
    | refine sl_load_rp1 rfl rfl rfl ag_4 rfl ?_
    | refine sl_load_blk1 rfl rfl rfl ag_4 (by repeat constructor) rfl ?_
  refine sl_not rfl rfl rfl ?_
  refine sl_nil ?_
  refine sw_true rfl (rfl) ?_
  refine sw_skip ?_
  refine sw_seq ?_
  refine sw_block ?_
  refine sw_seq ?_
  refine sw_seq ?_
  refine sw_cutk ⟨77, (.cons 0 (.ptr q 0) (.cons 3 (.val (.int .u64 (n : Int))) (.cons 4 (.val (.int .i64 ((7 * i : Nat) : Int))) (.cons 5 (.val (.int .i64 (i : Int))) (.cons 38 (.val (.bool (numStop l i))) .nil)))))⟩ (rd q l false :: σ) (True) ?_ ?_
  · refine sl_region ?_
    refine sl_mv rfl rfl rfl ?_
    refine sl_mv rfl rfl rfl ?_
    refine sl_nc rfl rfl rfl rfl ?_
    first
      | refine sl_fieldAddr_ptr rfl rfl rfl fo_80_0 ?_
      | refine sl_fieldAddr_rp rfl rfl rfl fo_80_0 ?_
      | refine sl_fieldAddr_ref rfl rfl rfl fo_80_0 ?_
    first
      | refine sl_load_rp1 rfl rfl rfl ag_26 rfl ?_
      | refine sl_load_blk1 rfl rfl rfl ag_26 (by repeat constructor) rfl ?_
    first
      | refine sl_len rfl rfl rfl ⟨_, u_26⟩ ?_
      | refine sl_len_sl rfl rfl rfl ⟨_, u_26⟩ ?_
      | refine sl_len_w _ rfl rfl rfl ⟨_, u_26⟩ ?_
    refine sl_bin rfl rfl rfl rfl rfl ?_
    refine sl_mv rfl rfl rfl ?_
    refine sl_case_at 21 rfl (fun ha => ?_) (fun ha => ?_)
    · refine sl_guard_n rfl rfl rfl ha ?_
      refine sl_guard_n rfl rfl rfl ha ?_
      refine sl_pk_t rfl rfl rfl ha rfl ?_
      refine sl_mv rfl rfl rfl ?_
      refine sl_guard_n rfl rfl rfl (rfl) ?_
      refine sl_guard_n rfl rfl rfl (rfl) ?_
      refine sl_guard_n rfl rfl rfl (rfl) ?_
      refine sl_guard_u rfl rfl rfl ?_
      refine sl_guard_u rfl rfl rfl ?_
      refine sl_guard_u rfl rfl rfl ?_
      refine sl_guard_u rfl rfl rfl ?_
      refine sl_guard_u rfl rfl rfl ?_
      refine sl_guard_u rfl rfl rfl ?_
      refine sl_guard_u rfl rfl rfl ?_
      refine sl_guard_u rfl rfl rfl ?_
      refine sl_guard_n rfl rfl rfl (rfl) ?_
      refine sl_pk_t rfl rfl rfl (rfl) rfl ?_
      refine sl_set 38 (.val (.bool (numStop l i))) (numStop_t rfl (by intro h; have := of_decide_eq_true ha; simp only [List.length_map] at this; have := h.1; omega)) ?_
      refine sl_nil ?_
      refine ⟨?_, ?_, rfl, trivial⟩
      · exact ⟨rfl, by repeat constructor⟩
      · repeat constructor
    have ha1 : i < l.length := by have := of_decide_eq_false ha; simp only [List.length_map] at this; omega
    refine sl_guard_y rfl rfl rfl ha ?_
    refine sl_mv rfl rfl rfl ?_
    refine sl_guard_y rfl rfl rfl ha ?_
    refine sl_bin rfl rfl rfl rfl rfl ?_
    refine sl_pk_f rfl rfl rfl ha rfl ?_
    refine sl_mv rfl rfl rfl ?_
    refine sl_case_at 25 rfl (fun hb => ?_) (fun hb => ?_)
    · refine sl_guard_n rfl rfl rfl hb ?_
      refine sl_guard_n rfl rfl rfl hb ?_
      refine sl_guard_n rfl rfl rfl hb ?_
      refine sl_guard_u rfl rfl rfl ?_
      refine sl_guard_u rfl rfl rfl ?_
      refine sl_guard_u rfl rfl rfl ?_
      refine sl_guard_u rfl rfl rfl ?_
      refine sl_guard_u rfl rfl rfl ?_
      refine sl_guard_u rfl rfl rfl ?_
      refine sl_guard_u rfl rfl rfl ?_
      refine sl_guard_u rfl rfl rfl ?_
      refine sl_guard_n rfl rfl rfl hb ?_
      refine sl_pk_t rfl rfl rfl hb rfl ?_
      refine sl_set 38 (.val (.bool (numStop l i))) (numStop_t rfl (by intro h; have := of_decide_eq_true hb; have := h.2; omega)) ?_
      refine sl_nil ?_
      refine ⟨?_, ?_, rfl, trivial⟩
      · exact ⟨rfl, by repeat constructor⟩
      · repeat constructor
    have hb1 : i < 10 := by have := of_decide_eq_false hb; omega
    refine sl_guard_y rfl rfl rfl hb ?_
    refine sl_mv rfl rfl rfl ?_
    refine sl_guard_y rfl rfl rfl hb ?_
    refine sl_bin rfl rfl rfl rfl rfl ?_
    refine sl_guard_y rfl rfl rfl hb ?_
    refine sl_mv rfl rfl rfl ?_
    refine sl_case_at 28 rfl (fun h9 => ?_) (fun h9 => ?_)
    · have h91 : i = 9 := by have := eq_of_beq h9; omega
      refine sl_guard_y rfl rfl rfl h9 ?_
      refine sl_mv rfl rfl rfl ?_
      refine sl_guard_y rfl rfl rfl h9 ?_
      refine sl_nc rfl rfl rfl rfl ?_
      refine sl_guard_y rfl rfl rfl h9 ?_
      first
        | refine sl_fieldAddr_ptr rfl rfl rfl fo_80_0 ?_
        | refine sl_fieldAddr_rp rfl rfl rfl fo_80_0 ?_
        | refine sl_fieldAddr_ref rfl rfl rfl fo_80_0 ?_
      refine sl_guard_y rfl rfl rfl h9 ?_
      first
        | refine sl_load_rp1 rfl rfl rfl ag_26 rfl ?_
        | refine sl_load_blk1 rfl rfl rfl ag_26 (by repeat constructor) rfl ?_
      refine sl_guard_y rfl rfl rfl h9 ?_
      refine sl_mv rfl rfl rfl ?_
      refine sl_guard_y rfl rfl rfl h9 ?_
      refine sl_indexAddr' rfl rfl rfl rfl u_26 sz_5 (by omega) (idx_map ha1) rfl ?_
      refine sl_guard_y rfl rfl rfl h9 ?_
      first
        | refine sl_load_rp1 rfl rfl rfl ag_5 rfl ?_
        | refine sl_load_blk1 rfl rfl rfl ag_5 (by repeat constructor) rfl ?_
      refine sl_guard_y rfl rfl rfl h9 ?_
      refine sl_bin rfl rfl rfl rfl rfl ?_
      refine sl_guard_y rfl rfl rfl hb ?_
      refine sl_pk_t rfl rfl rfl h9 rfl ?_
      refine sl_pk_f rfl rfl rfl hb rfl ?_
      refine sl_set 38 (.val (.bool (numStop l i))) (num9 ha1 h91) ?_
      refine sl_nil ?_
      refine ⟨?_, ?_, rfl, trivial⟩
      · exact ⟨rfl, by repeat constructor⟩
      · repeat constructor
    have h91 : i ≠ 9 := by have := beq_eq_false_iff_ne.mp h9; omega
    refine sl_guard_n rfl rfl rfl h9 ?_
    refine sl_guard_n rfl rfl rfl h9 ?_
    refine sl_guard_n rfl rfl rfl h9 ?_
    refine sl_guard_n rfl rfl rfl h9 ?_
    refine sl_guard_n rfl rfl rfl h9 ?_
    refine sl_guard_n rfl rfl rfl h9 ?_
    refine sl_guard_n rfl rfl rfl h9 ?_
    refine sl_guard_n rfl rfl rfl h9 ?_
    refine sl_guard_y rfl rfl rfl hb ?_
    refine sl_pk_f rfl rfl rfl h9 rfl ?_
    refine sl_pk_f rfl rfl rfl hb rfl ?_
    refine sl_set 38 (.val (.bool (numStop l i))) (numStop_f rfl ⟨ha1, .inl (by omega)⟩) ?_
    refine sl_nil ?_
    refine ⟨?_, ?_, rfl, trivial⟩
    · exact ⟨rfl, by repeat constructor⟩
    · repeat constructor
  intro _
  refine sw_cond rfl (fun hs => ?_) (fun hs => ?_)
  · have hs1 := numStop_iff.1.mp hs
    have hnone : decN 0 l = none := by rw [hd, decN_stop hi hs1]; rfl
    refine sw_exit ?_
    refine sw_seq ?_
    refine sl_region ?_
    refine sl_mv rfl rfl rfl ?_
    refine sl_nc rfl rfl rfl rfl ?_
    first
      | refine sl_fieldAddr_ptr rfl rfl rfl fo_80_1 ?_
      | refine sl_fieldAddr_rp rfl rfl rfl fo_80_1 ?_
      | refine sl_fieldAddr_ref rfl rfl rfl fo_80_1 ?_
    refine sl_stp rfl rfl rfl rfl sz_4 rfl rfl rfl (by repeat constructor) (Nat.le_of_ble_eq_true rfl) ?_
    refine sl_nil ?_
    refine sw_seq ?_
    refine sl_region ?_
    refine sl_as rfl rfl rfl ?_
    refine sl_nil ?_
    refine sw_ret ⟨rfl, _, _, res_one rfl rfl, ?_, by rw [rdOf_bad hnone]; exact ⟨rfl, _, ⟨l, rfl⟩, rfl⟩⟩
    repeat constructor
  obtain ⟨hlt, hj⟩ := goes_lt (numStop_iff.2.mp hs)
  rw [drop_at hlt] at hd
  have hj2 : i < 9 ∧ l[i].toNat % 128 < 128 ∨ i = 9 ∧ l[i].toNat % 128 ≤ 1 := by omega
  refine sw_skip ?_
  refine sw_seq ?_
  refine sl_region ?_
  refine sl_mv rfl rfl rfl ?_
  refine sl_nc rfl rfl rfl rfl ?_
  first
    | refine sl_fieldAddr_ptr rfl rfl rfl fo_80_0 ?_
    | refine sl_fieldAddr_rp rfl rfl rfl fo_80_0 ?_
    | refine sl_fieldAddr_ref rfl rfl rfl fo_80_0 ?_
  first
    | refine sl_load_rp1 rfl rfl rfl ag_26 rfl ?_
    | refine sl_load_blk1 rfl rfl rfl ag_26 (by repeat constructor) rfl ?_
  refine sl_mv rfl rfl rfl ?_
  refine sl_indexAddr' rfl rfl rfl rfl u_26 sz_5 (by omega) (idx_map hlt) rfl ?_
  first
    | refine sl_load_rp1 rfl rfl rfl ag_5 rfl ?_
    | refine sl_load_blk1 rfl rfl rfl ag_5 (by repeat constructor) rfl ?_
  refine sl_as rfl rfl rfl ?_
  refine sl_nil ?_
  refine sw_seq ?_
  refine sl_region ?_
  refine sl_mv rfl rfl rfl ?_
  refine sl_mv rfl rfl rfl ?_
  refine sl_bin rfl rfl rfl rfl rfl ?_
  refine sl_set 48 (.val (.int .u8 ((l[i].toNat % 128 : Nat) : Int))) (low_byte l[i]) ?_
  refine sl_conv_int rfl rfl rfl is_5 u_37 ?_
  refine sl_set 49 (.val (.int .u64 ((l[i].toNat % 128 : Nat) : Int))) (congrArg (fun z => D.val (.int .u64 z)) (wrapped_u64 _ (by omega))) ?_
  refine sl_mv rfl rfl rfl ?_
  refine sl_shl rfl rfl rfl rfl (by omega) ?_
  refine sl_set 51 (.val (.int .u64 ((128 ^ i * (l[i].toNat % 128) : Nat) : Int))) (shl_part hj2) ?_
  refine sl_bin rfl rfl rfl rfl rfl ?_
  refine sl_set 52 (.val (.int .u64 ((n + 128 ^ i * (l[i].toNat % 128) : Nat) : Int))) (or_part hn hj2) ?_
  refine sl_as rfl rfl rfl ?_
  refine sl_nil ?_
  refine sw_seq ?_
  refine sl_region ?_
  refine sl_mv rfl rfl rfl ?_
  first
    | refine sl_inc rfl rfl rfl rfl (by omega) ?_
    | refine sl_add rfl rfl rfl rfl (by constructor <;> omega) ?_
    | refine sl_bin rfl rfl rfl rfl rfl ?_
  refine sl_set 54 (.val (.int .i64 ((7 * (i + 1) : Nat) : Int))) (congrArg (fun z => D.val (.int .i64 z)) (by omega)) ?_
  refine sl_as rfl rfl rfl ?_
  refine sl_nil ?_
  refine sw_seq ?_
  refine sl_region ?_
  refine sl_mv rfl rfl rfl ?_
  refine sl_bin rfl rfl rfl rfl rfl ?_
  refine sl_nil ?_
  refine sw_cond rfl (fun hx => ?_) (fun hx => ?_)
  · have hx : l[i].toNat < 128 := by have := of_decide_eq_true hx; omega
    refine sw_seq ?_
    refine sw_seq ?_
    refine sl_region ?_
    refine sl_mv rfl rfl rfl ?_
    refine sl_bin rfl rfl rfl rfl rfl ?_
    refine sl_mv rfl rfl rfl ?_
    refine sl_case_at 59 rfl (fun hz => ?_) (fun hz => ?_)
    · have hz1 : l[i].toNat = 0 := by simpa using hz
      refine sl_guard_y rfl rfl rfl hz ?_
      refine sl_mv rfl rfl rfl ?_
      refine sl_guard_y rfl rfl rfl hz ?_
      refine sl_bin rfl rfl rfl rfl rfl ?_
      refine sl_pk_t rfl rfl rfl hz rfl ?_
      refine sl_nil ?_
      refine sw_cond rfl (fun h0 => ?_) (fun h0 => ?_)
      · have h0 : i ≠ 0 := by have := of_decide_eq_true h0; omega
        have hnone : decN 0 l = none := by rw [hd, decN_nought hz1 h0]; rfl
        refine sw_exit ?_
        refine sw_seq ?_
        refine sl_region ?_
        refine sl_mv rfl rfl rfl ?_
        refine sl_nc rfl rfl rfl rfl ?_
        first
          | refine sl_fieldAddr_ptr rfl rfl rfl fo_80_1 ?_
          | refine sl_fieldAddr_rp rfl rfl rfl fo_80_1 ?_
          | refine sl_fieldAddr_ref rfl rfl rfl fo_80_1 ?_
        refine sl_stp rfl rfl rfl rfl sz_4 rfl rfl rfl (by repeat constructor) (Nat.le_of_ble_eq_true rfl) ?_
        refine sl_nil ?_
        refine sw_seq ?_
        refine sl_region ?_
        refine sl_as rfl rfl rfl ?_
        refine sl_nil ?_
        refine sw_ret ⟨rfl, _, _, res_one rfl rfl, ?_, by rw [rdOf_bad hnone]; exact ⟨rfl, _, ⟨l, rfl⟩, rfl⟩⟩
        repeat constructor
      have h0 : i = 0 := by have := of_decide_eq_false h0; omega
      refine sw_skip ?_
      refine sw_seq ?_
      refine sl_region ?_
      refine sl_mv rfl rfl rfl ?_
      refine sl_mv rfl rfl rfl ?_
      refine sl_nc rfl rfl rfl rfl ?_
      first
        | refine sl_fieldAddr_ptr rfl rfl rfl fo_80_0 ?_
        | refine sl_fieldAddr_rp rfl rfl rfl fo_80_0 ?_
        | refine sl_fieldAddr_ref rfl rfl rfl fo_80_0 ?_
      first
        | refine sl_load_rp1 rfl rfl rfl ag_26 rfl ?_
        | refine sl_load_blk1 rfl rfl rfl ag_26 (by repeat constructor) rfl ?_
      refine sl_mv rfl rfl rfl ?_
      first
        | refine sl_inc rfl rfl rfl rfl (by omega) ?_
        | refine sl_add rfl rfl rfl rfl (by constructor <;> omega) ?_
        | refine sl_bin rfl rfl rfl rfl rfl ?_
      refine sl_slice_list (i + 1) _ rfl rfl rfl u_26 sz_5 (fun x hx => (SzI.get (by repeat constructor) x hx).1) ⟨_, rfl⟩ rfl (by simp only [List.length_map]; omega) (Nat.le_refl _) ?_
      refine sl_set 70 (.val (.list ((l.drop (i + 1)).map byteV))) (drop_bytes l (i + 1)) ?_
      refine sl_nc rfl rfl rfl rfl ?_
      first
        | refine sl_fieldAddr_ptr rfl rfl rfl fo_80_0 ?_
        | refine sl_fieldAddr_rp rfl rfl rfl fo_80_0 ?_
        | refine sl_fieldAddr_ref rfl rfl rfl fo_80_0 ?_
      refine sl_stp rfl rfl rfl rfl sz_26 rfl rfl rfl (by repeat constructor) (Nat.le_of_ble_eq_true rfl) ?_
      refine sl_nil ?_
      refine sw_seq ?_
      refine sl_region ?_
      refine sl_mv rfl rfl rfl ?_
      refine sl_as rfl rfl rfl ?_
      refine sl_nil ?_
      refine sw_ret ⟨rfl, _, _, res_one rfl rfl, ?_, by rw [rdOf_good (fin_dec hd (decN_last hj hx (.inr h0)) hx)]; exact ⟨rfl, _, ⟨rfl, by rw [List.length_drop]; omega⟩, rfl⟩⟩
      repeat constructor
    have hz1 : l[i].toNat ≠ 0 := by intro h; rw [h] at hz; simp at hz
    refine sl_guard_n rfl rfl rfl hz ?_
    refine sl_guard_n rfl rfl rfl hz ?_
    refine sl_pk_f rfl rfl rfl hz rfl ?_
    refine sl_nil ?_
    refine sw_false rfl (rfl) ?_
    refine sw_skip ?_
    refine sw_seq ?_
    refine sl_region ?_
    refine sl_mv rfl rfl rfl ?_
    refine sl_mv rfl rfl rfl ?_
    refine sl_nc rfl rfl rfl rfl ?_
    first
      | refine sl_fieldAddr_ptr rfl rfl rfl fo_80_0 ?_
      | refine sl_fieldAddr_rp rfl rfl rfl fo_80_0 ?_
      | refine sl_fieldAddr_ref rfl rfl rfl fo_80_0 ?_
    first
      | refine sl_load_rp1 rfl rfl rfl ag_26 rfl ?_
      | refine sl_load_blk1 rfl rfl rfl ag_26 (by repeat constructor) rfl ?_
    refine sl_mv rfl rfl rfl ?_
    first
      | refine sl_inc rfl rfl rfl rfl (by omega) ?_
      | refine sl_add rfl rfl rfl rfl (by constructor <;> omega) ?_
      | refine sl_bin rfl rfl rfl rfl rfl ?_
    refine sl_slice_list (i + 1) _ rfl rfl rfl u_26 sz_5 (fun x hx => (SzI.get (by repeat constructor) x hx).1) ⟨_, rfl⟩ rfl (by simp only [List.length_map]; omega) (Nat.le_refl _) ?_
    refine sl_set 70 (.val (.list ((l.drop (i + 1)).map byteV))) (drop_bytes l (i + 1)) ?_
    refine sl_nc rfl rfl rfl rfl ?_
    first
      | refine sl_fieldAddr_ptr rfl rfl rfl fo_80_0 ?_
      | refine sl_fieldAddr_rp rfl rfl rfl fo_80_0 ?_
      | refine sl_fieldAddr_ref rfl rfl rfl fo_80_0 ?_
    refine sl_stp rfl rfl rfl rfl sz_26 rfl rfl rfl (by repeat constructor) (Nat.le_of_ble_eq_true rfl) ?_
    refine sl_nil ?_
    refine sw_seq ?_
    refine sl_region ?_
    refine sl_mv rfl rfl rfl ?_
    refine sl_as rfl rfl rfl ?_
    refine sl_nil ?_
    refine sw_ret ⟨rfl, _, _, res_one rfl rfl, ?_, by rw [rdOf_good (fin_dec hd (decN_last hj hx (.inl hz1)) hx)]; exact ⟨rfl, _, ⟨rfl, by rw [List.length_drop]; omega⟩, rfl⟩⟩
    repeat constructor
  have hx : ¬ l[i].toNat < 128 := by have := of_decide_eq_false hx; omega
  refine sw_skip ?_
  refine sl_region ?_
  refine sl_mv rfl rfl rfl ?_
  first
    | refine sl_inc rfl rfl rfl rfl (by omega) ?_
    | refine sl_add rfl rfl rfl rfl (by constructor <;> omega) ?_
    | refine sl_bin rfl rfl rfl rfl rfl ?_
  refine sl_as rfl rfl rfl ?_
  refine sl_nil ?_
  refine ⟨_, by omega, _, _, ?_, ?_, i + 1, n + 128 ^ i * (l[i].toNat % 128), rfl, rfl, rfl, rfl, by omega, step_lt hn (by omega), step_dec hd hj hx⟩
  · exact ⟨rfl, by repeat constructor⟩
  · repeat constructor

theorem ynum_bad (q : Nat) (l : List UInt8) (σ : List Chunk) : FSpec Try.prog 40 [.ptr q 0] (rd q l true :: σ) (fun d σ' => d = .val (u64V 0) ∧ σ' = rd q l true :: σ) := by
  refine spec_of_sw Try.func40 rfl ?_
  refine sw_seq ?_
  refine sl_region ?_
  refine sl_as rfl rfl rfl ?_
  refine sl_nil ?_
  refine sw_seq ?_
  refine sl_region ?_
  refine sl_as rfl rfl rfl ?_
  refine sl_as rfl rfl rfl ?_
  refine sl_nil ?_
  refine sw_seq ?_
  refine sw_seq ?_
  refine sl_region ?_
  refine sl_as rfl rfl rfl ?_
  refine sl_nil ?_
  refine sw_block ?_
  refine sw_loopw (fun nX sX δX σX => ∃ (i : Nat), (1) = nX ∧ sX = ⟨77, (.cons 0 (.ptr q 0) .nil)⟩ ∧ δX = [] ∧ σX = rd q l true :: σ) ?_ ?_
  · refine ⟨_, _, _, ?_, ?_, 0, rfl, rfl, rfl, rfl⟩
    · exact ⟨rfl, by repeat constructor⟩
    · repeat constructor
  rintro nX sX δX σX ⟨i, rfl, rfl, rfl, rfl⟩
  refine sw_seq ?_
  refine sw_seq ?_
  refine sl_region ?_
  refine sl_mv rfl rfl rfl ?_
  refine sl_nc rfl rfl rfl rfl ?_
  first
    | refine sl_fieldAddr_ptr rfl rfl rfl fo_80_1 ?_
    | refine sl_fieldAddr_rp rfl rfl rfl fo_80_1 ?_
    | refine sl_fieldAddr_ref rfl rfl rfl fo_80_1 ?_
  first
    | refine sl_load_rp1 rfl rfl rfl ag_4 rfl ?_
    | refine sl_load_blk1 rfl rfl rfl ag_4 (by repeat constructor) rfl ?_
  refine sl_not rfl rfl rfl ?_
  refine sl_nil ?_
  refine sw_false rfl (rfl) ?_
  refine sw_exit ?_
  refine sw_seq ?_
  refine sl_region ?_
  refine sl_mv rfl rfl rfl ?_
  refine sl_nc rfl rfl rfl rfl ?_
  first
    | refine sl_fieldAddr_ptr rfl rfl rfl fo_80_1 ?_
    | refine sl_fieldAddr_rp rfl rfl rfl fo_80_1 ?_
    | refine sl_fieldAddr_ref rfl rfl rfl fo_80_1 ?_
  refine sl_stp rfl rfl rfl rfl sz_4 rfl rfl rfl (by repeat constructor) (Nat.le_of_ble_eq_true rfl) ?_
  refine sl_nil ?_
  refine sw_seq ?_
  refine sl_region ?_
  refine sl_as rfl rfl rfl ?_
  refine sl_nil ?_
  refine sw_ret ⟨rfl, _, _, res_one rfl rfl, ?_, ⟨rfl, rfl⟩⟩
  repeat constructor

theorem ynum_ok (q : Nat) (st : Option (List UInt8)) (c : Chunk) (σ : List Chunk) (h : Rdr q st c) :
    FSpec Try.prog 40 [.ptr q 0] (c :: σ) (fun d σ' => d = .val (u64V (rdOf (decN 0) 0 st).1) ∧ ∃ c', Rdr q (rdOf (decN 0) 0 st).2 c' ∧ σ' = c' :: σ) := by
  cases st with
  | some l => obtain ⟨rfl, hl⟩ := h; exact ynum_good q l σ hl
  | none => obtain ⟨r, rfl⟩ := h; exact (ynum_bad q r σ).mono fun d σ' h => ⟨h.1, _, ⟨r, rfl⟩, h.2⟩

theorem rdOf_lt {st : Option (List UInt8)} : (rdOf (decN 0) 0 st).1 < 18446744073709551616 := by
  cases st with
  | none => simp [rdOf]
  | some l =>
    cases e : decN 0 l with
    | none => rw [rdOf_bad e]; simp
    | some p => rw [rdOf_good (v := p.1) (r := p.2) (by rw [e])]; exact decN_lt64 (r := p.2) (by rw [e])

theorem rdOf_int (st : Option (List UInt8)) : rdOf decI (0 : Int) st = (unzig (rdOf (decN 0) 0 st).1, (rdOf (decN 0) 0 st).2) := by
  cases st with
  | none => rfl
  | some l =>
    cases e : decN 0 l with
    | none => rw [rdOf_bad e, rdOf_bad (by unfold decI; rw [e]; rfl)]; rfl
    | some p => rw [rdOf_good (v := p.1) (r := p.2) (by rw [e]), rdOf_good (v := unzig p.1) (r := p.2) (by unfold decI; rw [e]; rfl)]

theorem odd_bit (n : Nat) (h : n < 18446744073709551616) : D.val (.bool (IntKind.u64.wrap ((BitVec.ofInt IntKind.u64.bits (n : Int) &&& BitVec.ofInt IntKind.u64.bits 1).toNat : Int) == 1)) = .val (.bool (decide (n % 2 = 1))) := by
  have h1 : (BitVec.ofInt IntKind.u64.bits (n : Int) &&& BitVec.ofInt IntKind.u64.bits 1).toNat = n % 2 := by
    show (BitVec.ofInt 64 (n : Int) &&& BitVec.ofInt 64 1).toNat = n % 2
    have h2 : (BitVec.ofInt 64 1).toNat = 1 := by decide
    rw [BitVec.toNat_and, h2, BitVec.toNat_ofInt]
    have : ((n : Int) % ((2 ^ 64 : Nat) : Int)).toNat = n := by omega
    rw [this, Nat.and_one_is_mod]
  rw [h1, wrapped_u64 _ (by omega)]
  by_cases h : n % 2 = 1
  · rw [h]; rfl
  · rw [show n % 2 = 0 by omega]; rfl

theorem half_eq {n : Nat} (h : n < 18446744073709551616) : D.val (.int .i64 (IntKind.i64.wrap ((n : Int).fdiv (2 ^ (min (1 : Int).toNat IntKind.u64.bits))))) = .val (.int .i64 ((n / 2 : Nat) : Int)) := by
  have e1 : min (1 : Int).toNat IntKind.u64.bits = 1 := by decide
  rw [e1, Int.fdiv_eq_ediv_of_nonneg _ (by decide)]
  have h3 : ((n : Int) / 2 ^ 1) = ((n / 2 : Nat) : Int) := by omega
  rw [h3, wrap_i64 (n := ((n / 2 : Nat) : Int)) (by omega) (by omega)]

theorem half_neg {n : Nat} (ho : n % 2 = 1) : D.val (.int .i64 ((0 - ((n / 2 : Nat) : Int)) - 1)) = .val (i64V (unzig n)) := by
  unfold i64V unzig
  rw [if_pos ho]
  congr 2; omega

theorem half_pos {n : Nat} (h : n < 18446744073709551616) (ho : ¬ n % 2 = 1) : D.val (.int .i64 (IntKind.i64.wrap ((n : Int).fdiv (2 ^ (min (1 : Int).toNat IntKind.u64.bits))))) = .val (i64V (unzig n)) := by
  have e1 : min (1 : Int).toNat IntKind.u64.bits = 1 := by decide
  rw [e1, Int.fdiv_eq_ediv_of_nonneg _ (by decide)]
  have h3 : ((n : Int) / 2 ^ 1) = ((n / 2 : Nat) : Int) := by omega
  rw [h3, wrap_i64 (n := ((n / 2 : Nat) : Int)) (by omega) (by omega)]
  unfold i64V unzig
  rw [if_neg ho]

theorem yint_ok (q : Nat) (st : Option (List UInt8)) (c : Chunk) (σ : List Chunk) (h : Rdr q st c) :
    FSpec Try.prog 82 [.ptr q 0] (c :: σ) (fun d σ' => d = .val (i64V (rdOf decI 0 st).1) ∧ ∃ c', Rdr q (rdOf decI 0 st).2 c' ∧ σ' = c' :: σ) := by
  have hlt := rdOf_lt (st := st)
  rw [rdOf_int]
  obtain ⟨n, hn⟩ : ∃ n, n = (rdOf (decN 0) 0 st).1 := ⟨_, rfl⟩
  rw [← hn] at hlt
  have hh : n / 2 < 9223372036854775808 := by omega
  refine spec_of_sw Try.func82 rfl ?_
  refine sw_seq ?_
  refine sl_region ?_
  refine sl_as rfl rfl rfl ?_
  refine sl_nil ?_
  refine sw_seq ?_
  refine sl_region ?_
  refine sl_mv rfl rfl rfl ?_
  refine sl_callf rfl rfl cal_40 (ynum_ok q st c σ h) ?_ ?_ ?_ (fun _ _ h => h.elim)
  · repeat constructor
  · repeat constructor
  rintro _ _ ⟨rfl, c2, h2, rfl⟩
  rw [← hn]
  refine sl_as rfl rfl rfl ?_
  refine sl_nil ?_
  refine sw_seq ?_
  refine sw_seq ?_
  refine sl_region ?_
  refine sl_mv rfl rfl rfl ?_
  refine sl_bin rfl rfl rfl rfl rfl ?_
  refine sl_bin rfl rfl rfl rfl rfl ?_
  refine sl_set 8 (.val (.bool (decide (n % 2 = 1)))) (odd_bit n hlt) ?_
  refine sl_nil ?_
  refine sw_cond rfl (fun ho => ?_) (fun ho => ?_)
  · have ho : n % 2 = 1 := of_decide_eq_true ho
    refine sw_seq ?_
    refine sl_region ?_
    refine sl_mv rfl rfl rfl ?_
    refine sl_shr rfl rfl rfl rfl (by decide) ?_
    refine sl_conv_int rfl rfl rfl is_37 u_2 ?_
    refine sl_set 11 (.val (.int .i64 ((n / 2 : Nat) : Int))) (half_eq hlt) ?_
    refine sl_neg rfl rfl rfl ?_
    refine sl_set 12 (.val (.int .i64 (0 - ((n / 2 : Nat) : Int)))) (congrArg (fun z => D.val (.int .i64 z)) (wrap_i64 (n := 0 - ((n / 2 : Nat) : Int)) (by omega) (by omega))) ?_
    first
      | refine sl_sub_ rfl rfl rfl rfl (by constructor <;> omega) ?_
      | refine sl_bin rfl rfl rfl rfl rfl ?_
    refine sl_set 13 (.val (i64V (unzig n))) (half_neg ho) ?_
    refine sl_as rfl rfl rfl ?_
    refine sl_nil ?_
    refine sw_ret ⟨rfl, _, _, res_one rfl rfl, ?_, ⟨rfl, c2, h2, rfl⟩⟩
    repeat constructor
  have ho : ¬ n % 2 = 1 := of_decide_eq_false ho
  refine sw_skip ?_
  refine sw_seq ?_
  refine sl_region ?_
  refine sl_mv rfl rfl rfl ?_
  refine sl_shr rfl rfl rfl rfl (by decide) ?_
  refine sl_conv_int rfl rfl rfl is_37 u_2 ?_
  refine sl_set 16 (.val (i64V (unzig n))) (half_pos hlt ho) ?_
  refine sl_as rfl rfl rfl ?_
  refine sl_nil ?_
  refine sw_ret ⟨rfl, _, _, res_one rfl rfl, ?_, ⟨rfl, c2, h2, rfl⟩⟩
  repeat constructor

theorem decT_of {l r : List UInt8} {n : Nat} (h : decN 0 l = some (n, r)) : decT l = if n ≤ r.length then some (r.take n, r.drop n) else none := by
  unfold decT; rw [h]

theorem ytext_good (q : Nat) (l : List UInt8) (σ : List Chunk) (hl : l.length ≤ 100000000) :
    FSpec Try.prog 42 [.ptr q 0] (rd q l false :: σ) (fun d σ' => d = .val (strV (rdOf decT [] (some l)).1) ∧ ∃ c', Rdr q (rdOf decT [] (some l)).2 c' ∧ σ' = c' :: σ) := by
  refine spec_of_sw Try.func42 rfl ?_
  refine sw_seq ?_
  refine sl_region ?_
  refine sl_as rfl rfl rfl ?_
  refine sl_nil ?_
  refine sw_seq ?_
  refine sl_region ?_
  refine sl_mv rfl rfl rfl ?_
  refine sl_callf rfl rfl cal_40 (ynum_good q l σ hl) ?_ ?_ ?_ (fun _ _ h => h.elim)
  · repeat constructor
  · repeat constructor
  rintro _ _ ⟨rfl, c2, h2, rfl⟩
  rcases hdec : decN 0 l with _ | ⟨n, r⟩
  · rw [rdOf_bad hdec] at h2 ⊢
    obtain ⟨r, rfl⟩ := h2
    refine sl_as rfl rfl rfl ?_
    refine sl_nil ?_
    refine sw_seq ?_
    refine sw_seq ?_
    refine sl_region ?_
    refine sl_mv rfl rfl rfl ?_
    refine sl_nc rfl rfl rfl rfl ?_
    first
      | refine sl_fieldAddr_ptr rfl rfl rfl fo_80_1 ?_
      | refine sl_fieldAddr_rp rfl rfl rfl fo_80_1 ?_
      | refine sl_fieldAddr_ref rfl rfl rfl fo_80_1 ?_
    first
      | refine sl_load_rp1 rfl rfl rfl ag_4 rfl ?_
      | refine sl_load_blk1 rfl rfl rfl ag_4 (by repeat constructor) rfl ?_
    refine sl_mv rfl rfl rfl ?_
    refine sl_guard_n rfl rfl rfl (rfl) ?_
    refine sl_guard_n rfl rfl rfl (rfl) ?_
    refine sl_guard_n rfl rfl rfl (rfl) ?_
    refine sl_guard_n rfl rfl rfl (rfl) ?_
    refine sl_guard_n rfl rfl rfl (rfl) ?_
    refine sl_guard_n rfl rfl rfl (rfl) ?_
    refine sl_guard_n rfl rfl rfl (rfl) ?_
    refine sl_guard_n rfl rfl rfl (rfl) ?_
    refine sl_pk_t rfl rfl rfl (rfl) rfl ?_
    refine sl_nil ?_
    refine sw_true rfl (rfl) ?_
    refine sw_seq ?_
    refine sl_region ?_
    refine sl_mv rfl rfl rfl ?_
    refine sl_nc rfl rfl rfl rfl ?_
    first
      | refine sl_fieldAddr_ptr rfl rfl rfl fo_80_1 ?_
      | refine sl_fieldAddr_rp rfl rfl rfl fo_80_1 ?_
      | refine sl_fieldAddr_ref rfl rfl rfl fo_80_1 ?_
    refine sl_stp rfl rfl rfl rfl sz_4 rfl rfl rfl (by repeat constructor) (Nat.le_of_ble_eq_true rfl) ?_
    refine sl_nil ?_
    refine sw_seq ?_
    refine sl_region ?_
    refine sl_as rfl rfl rfl ?_
    refine sl_nil ?_
    refine sw_ret ⟨rfl, _, _, res_one rfl rfl, ?_, by rw [rdOf_bad (by unfold decT; rw [hdec])]; exact ⟨rfl, _, ⟨r, rfl⟩, rfl⟩⟩
    repeat constructor
  rw [rdOf_good hdec] at h2 ⊢
  obtain ⟨rfl, hr⟩ := h2
  refine sl_as rfl rfl rfl ?_
  refine sl_nil ?_
  refine sw_seq ?_
  refine sw_seq ?_
  refine sl_region ?_
  refine sl_mv rfl rfl rfl ?_
  refine sl_nc rfl rfl rfl rfl ?_
  first
    | refine sl_fieldAddr_ptr rfl rfl rfl fo_80_1 ?_
    | refine sl_fieldAddr_rp rfl rfl rfl fo_80_1 ?_
    | refine sl_fieldAddr_ref rfl rfl rfl fo_80_1 ?_
  first
    | refine sl_load_rp1 rfl rfl rfl ag_4 rfl ?_
    | refine sl_load_blk1 rfl rfl rfl ag_4 (by repeat constructor) rfl ?_
  refine sl_mv rfl rfl rfl ?_
  refine sl_guard_y rfl rfl rfl (rfl) ?_
  refine sl_mv rfl rfl rfl ?_
  refine sl_guard_y rfl rfl rfl (rfl) ?_
  refine sl_mv rfl rfl rfl ?_
  refine sl_guard_y rfl rfl rfl (rfl) ?_
  refine sl_nc rfl rfl rfl rfl ?_
  refine sl_guard_y rfl rfl rfl (rfl) ?_
  first
    | refine sl_fieldAddr_ptr rfl rfl rfl fo_80_0 ?_
    | refine sl_fieldAddr_rp rfl rfl rfl fo_80_0 ?_
    | refine sl_fieldAddr_ref rfl rfl rfl fo_80_0 ?_
  refine sl_guard_y rfl rfl rfl (rfl) ?_
  first
    | refine sl_load_rp1 rfl rfl rfl ag_26 rfl ?_
    | refine sl_load_blk1 rfl rfl rfl ag_26 (by repeat constructor) rfl ?_
  refine sl_guard_y rfl rfl rfl (rfl) ?_
  first
    | refine sl_len rfl rfl rfl ⟨_, u_26⟩ ?_
    | refine sl_len_sl rfl rfl rfl ⟨_, u_26⟩ ?_
    | refine sl_len_w _ rfl rfl rfl ⟨_, u_26⟩ ?_
  refine sl_guard_y rfl rfl rfl (rfl) ?_
  refine sl_conv_int rfl rfl rfl is_3 u_37 ?_
  refine sl_set 18 (.val (.int .u64 (r.length : Int))) (len_u64 hr) ?_
  refine sl_guard_y rfl rfl rfl (rfl) ?_
  refine sl_bin rfl rfl rfl rfl rfl ?_
  refine sl_pk_f rfl rfl rfl (rfl) rfl ?_
  refine sl_nil ?_
  refine sw_cond rfl (fun hb => ?_) (fun hb => ?_)
  · have hb : ¬ n ≤ r.length := by have := of_decide_eq_true hb; omega
    refine sw_seq ?_
    refine sl_region ?_
    refine sl_mv rfl rfl rfl ?_
    refine sl_nc rfl rfl rfl rfl ?_
    first
      | refine sl_fieldAddr_ptr rfl rfl rfl fo_80_1 ?_
      | refine sl_fieldAddr_rp rfl rfl rfl fo_80_1 ?_
      | refine sl_fieldAddr_ref rfl rfl rfl fo_80_1 ?_
    refine sl_stp rfl rfl rfl rfl sz_4 rfl rfl rfl (by repeat constructor) (Nat.le_of_ble_eq_true rfl) ?_
    refine sl_nil ?_
    refine sw_seq ?_
    refine sl_region ?_
    refine sl_as rfl rfl rfl ?_
    refine sl_nil ?_
    refine sw_ret ⟨rfl, _, _, res_one rfl rfl, ?_, by rw [rdOf_bad (by rw [decT_of hdec, if_neg hb])]; exact ⟨rfl, _, ⟨r, rfl⟩, rfl⟩⟩
    repeat constructor
  have hb : n ≤ r.length := by have := of_decide_eq_false hb; omega
  refine sw_skip ?_
  refine sw_seq ?_
  refine sl_region ?_
  refine sl_mv rfl rfl rfl ?_
  refine sl_nc rfl rfl rfl rfl ?_
  first
    | refine sl_fieldAddr_ptr rfl rfl rfl fo_80_0 ?_
    | refine sl_fieldAddr_rp rfl rfl rfl fo_80_0 ?_
    | refine sl_fieldAddr_ref rfl rfl rfl fo_80_0 ?_
  first
    | refine sl_load_rp1 rfl rfl rfl ag_26 rfl ?_
    | refine sl_load_blk1 rfl rfl rfl ag_26 (by repeat constructor) rfl ?_
  refine sl_mv rfl rfl rfl ?_
  refine sl_slice_list 0 n rfl rfl rfl u_26 sz_5 (fun x hx => (SzI.get (by repeat constructor) x hx).1) rfl ⟨_, rfl⟩ (Nat.zero_le _) (by simp; omega) ?_
  refine sl_set 29 (.val (.list ((r.take n).map byteV))) (take_bytes r n) ?_
  refine sl_bytes_str rfl rfl rfl u_26 u_5 u_9 ?_
  refine sl_as rfl rfl rfl ?_
  refine sl_nil ?_
  refine sw_seq ?_
  refine sl_region ?_
  refine sl_mv rfl rfl rfl ?_
  refine sl_mv rfl rfl rfl ?_
  refine sl_nc rfl rfl rfl rfl ?_
  first
    | refine sl_fieldAddr_ptr rfl rfl rfl fo_80_0 ?_
    | refine sl_fieldAddr_rp rfl rfl rfl fo_80_0 ?_
    | refine sl_fieldAddr_ref rfl rfl rfl fo_80_0 ?_
  first
    | refine sl_load_rp1 rfl rfl rfl ag_26 rfl ?_
    | refine sl_load_blk1 rfl rfl rfl ag_26 (by repeat constructor) rfl ?_
  refine sl_mv rfl rfl rfl ?_
  refine sl_slice_list n _ rfl rfl rfl u_26 sz_5 (fun x hx => (SzI.get (by repeat constructor) x hx).1) ⟨_, rfl⟩ rfl (by simp; omega) (Nat.le_refl _) ?_
  refine sl_set 37 (.val (.list ((r.drop n).map byteV))) (drop_bytes r n) ?_
  refine sl_nc rfl rfl rfl rfl ?_
  first
    | refine sl_fieldAddr_ptr rfl rfl rfl fo_80_0 ?_
    | refine sl_fieldAddr_rp rfl rfl rfl fo_80_0 ?_
    | refine sl_fieldAddr_ref rfl rfl rfl fo_80_0 ?_
  refine sl_stp rfl rfl rfl rfl sz_26 rfl rfl rfl (by repeat constructor) (Nat.le_of_ble_eq_true rfl) ?_
  refine sl_nil ?_
  refine sw_seq ?_
  refine sl_region ?_
  refine sl_mv rfl rfl rfl ?_
  refine sl_as rfl rfl rfl ?_
  refine sl_nil ?_
  refine sw_ret ⟨rfl, _, _, res_one rfl rfl, ?_, by rw [rdOf_good (by rw [decT_of hdec, if_pos hb])]; exact ⟨rfl, _, ⟨rfl, by rw [List.length_drop]; omega⟩, rfl⟩⟩
  repeat constructor

theorem ytext_bad (q : Nat) (l : List UInt8) (σ : List Chunk) : FSpec Try.prog 42 [.ptr q 0] (rd q l true :: σ) (fun d σ' => d = .val (strV []) ∧ σ' = rd q l true :: σ) := by
  refine spec_of_sw Try.func42 rfl ?_
  refine sw_seq ?_
  refine sl_region ?_
  refine sl_as rfl rfl rfl ?_
  refine sl_nil ?_
  refine sw_seq ?_
  refine sl_region ?_
  refine sl_mv rfl rfl rfl ?_
  refine sl_callf rfl rfl cal_40 (ynum_bad q l σ) ?_ ?_ ?_ (fun _ _ h => h.elim)
  · repeat constructor
  · repeat constructor
  rintro _ _ ⟨rfl, rfl⟩
  refine sl_as rfl rfl rfl ?_
  refine sl_nil ?_
  refine sw_seq ?_
  refine sw_seq ?_
  refine sl_region ?_
  refine sl_mv rfl rfl rfl ?_
  refine sl_nc rfl rfl rfl rfl ?_
  first
    | refine sl_fieldAddr_ptr rfl rfl rfl fo_80_1 ?_
    | refine sl_fieldAddr_rp rfl rfl rfl fo_80_1 ?_
    | refine sl_fieldAddr_ref rfl rfl rfl fo_80_1 ?_
  first
    | refine sl_load_rp1 rfl rfl rfl ag_4 rfl ?_
    | refine sl_load_blk1 rfl rfl rfl ag_4 (by repeat constructor) rfl ?_
  refine sl_mv rfl rfl rfl ?_
  refine sl_guard_n rfl rfl rfl (rfl) ?_
  refine sl_guard_n rfl rfl rfl (rfl) ?_
  refine sl_guard_n rfl rfl rfl (rfl) ?_
  refine sl_guard_n rfl rfl rfl (rfl) ?_
  refine sl_guard_n rfl rfl rfl (rfl) ?_
  refine sl_guard_n rfl rfl rfl (rfl) ?_
  refine sl_guard_n rfl rfl rfl (rfl) ?_
  refine sl_guard_n rfl rfl rfl (rfl) ?_
  refine sl_pk_t rfl rfl rfl (rfl) rfl ?_
  refine sl_nil ?_
  refine sw_true rfl (rfl) ?_
  refine sw_seq ?_
  refine sl_region ?_
  refine sl_mv rfl rfl rfl ?_
  refine sl_nc rfl rfl rfl rfl ?_
  first
    | refine sl_fieldAddr_ptr rfl rfl rfl fo_80_1 ?_
    | refine sl_fieldAddr_rp rfl rfl rfl fo_80_1 ?_
    | refine sl_fieldAddr_ref rfl rfl rfl fo_80_1 ?_
  refine sl_stp rfl rfl rfl rfl sz_4 rfl rfl rfl (by repeat constructor) (Nat.le_of_ble_eq_true rfl) ?_
  refine sl_nil ?_
  refine sw_seq ?_
  refine sl_region ?_
  refine sl_as rfl rfl rfl ?_
  refine sl_nil ?_
  refine sw_ret ⟨rfl, _, _, res_one rfl rfl, ?_, ⟨rfl, rfl⟩⟩
  repeat constructor

theorem ytext_ok (q : Nat) (st : Option (List UInt8)) (c : Chunk) (σ : List Chunk) (h : Rdr q st c) :
    FSpec Try.prog 42 [.ptr q 0] (c :: σ) (fun d σ' => d = .val (strV (rdOf decT [] st).1) ∧ ∃ c', Rdr q (rdOf decT [] st).2 c' ∧ σ' = c' :: σ) := by
  cases st with
  | some l => obtain ⟨rfl, hl⟩ := h; exact ytext_good q l σ hl
  | none => obtain ⟨r, rfl⟩ := h; exact (ytext_bad q r σ).mono fun d σ' h => ⟨h.1, _, ⟨r, rfl⟩, h.2⟩

theorem ybool_good (q : Nat) (l : List UInt8) (σ : List Chunk) (hl : l.length ≤ 100000000) :
    FSpec Try.prog 43 [.ptr q 0] (rd q l false :: σ) (fun d σ' => d = .val (boolV (rdOf decB false (some l)).1) ∧ ∃ c', Rdr q (rdOf decB false (some l)).2 c' ∧ σ' = c' :: σ) := by
  refine spec_of_sw Try.func43 rfl ?_
  refine sw_seq ?_
  refine sl_region ?_
  refine sl_as rfl rfl rfl ?_
  refine sl_nil ?_
  refine sw_seq ?_
  refine sw_seq ?_
  refine sl_region ?_
  refine sl_mv rfl rfl rfl ?_
  refine sl_nc rfl rfl rfl rfl ?_
  first
    | refine sl_fieldAddr_ptr rfl rfl rfl fo_80_1 ?_
    | refine sl_fieldAddr_rp rfl rfl rfl fo_80_1 ?_
    | refine sl_fieldAddr_ref rfl rfl rfl fo_80_1 ?_
  first
    | refine sl_load_rp1 rfl rfl rfl ag_4 rfl ?_
    | refine sl_load_blk1 rfl rfl rfl ag_4 (by repeat constructor) rfl ?_
  refine sl_mv rfl rfl rfl ?_
  refine sl_guard_y rfl rfl rfl (rfl) ?_
  refine sl_mv rfl rfl rfl ?_
  refine sl_guard_y rfl rfl rfl (rfl) ?_
  refine sl_nc rfl rfl rfl rfl ?_
  refine sl_guard_y rfl rfl rfl (rfl) ?_
  first
    | refine sl_fieldAddr_ptr rfl rfl rfl fo_80_0 ?_
    | refine sl_fieldAddr_rp rfl rfl rfl fo_80_0 ?_
    | refine sl_fieldAddr_ref rfl rfl rfl fo_80_0 ?_
  refine sl_guard_y rfl rfl rfl (rfl) ?_
  first
    | refine sl_load_rp1 rfl rfl rfl ag_26 rfl ?_
    | refine sl_load_blk1 rfl rfl rfl ag_26 (by repeat constructor) rfl ?_
  refine sl_guard_y rfl rfl rfl (rfl) ?_
  first
    | refine sl_len rfl rfl rfl ⟨_, u_26⟩ ?_
    | refine sl_len_sl rfl rfl rfl ⟨_, u_26⟩ ?_
    | refine sl_len_w _ rfl rfl rfl ⟨_, u_26⟩ ?_
  refine sl_guard_y rfl rfl rfl (rfl) ?_
  refine sl_bin rfl rfl rfl rfl rfl ?_
  refine sl_pk_f rfl rfl rfl (rfl) rfl ?_
  refine sl_mv rfl rfl rfl ?_
  refine sl_case_at 16 rfl (fun hc => ?_) (fun hc => ?_)
  · have hm : l = [] := by
      have := eq_of_beq hc
      rw [List.length_map] at this
      exact List.eq_nil_of_length_eq_zero (by omega)
    refine sl_guard_n rfl rfl rfl hc ?_
    refine sl_guard_n rfl rfl rfl hc ?_
    refine sl_guard_n rfl rfl rfl hc ?_
    refine sl_guard_n rfl rfl rfl hc ?_
    refine sl_guard_n rfl rfl rfl hc ?_
    refine sl_guard_n rfl rfl rfl hc ?_
    refine sl_guard_n rfl rfl rfl hc ?_
    refine sl_pk_t rfl rfl rfl hc rfl ?_
    refine sl_nil ?_
    refine sw_true rfl (rfl) ?_
    refine sw_seq ?_
    refine sl_region ?_
    refine sl_mv rfl rfl rfl ?_
    refine sl_nc rfl rfl rfl rfl ?_
    first
      | refine sl_fieldAddr_ptr rfl rfl rfl fo_80_1 ?_
      | refine sl_fieldAddr_rp rfl rfl rfl fo_80_1 ?_
      | refine sl_fieldAddr_ref rfl rfl rfl fo_80_1 ?_
    refine sl_stp rfl rfl rfl rfl sz_4 rfl rfl rfl (by repeat constructor) (Nat.le_of_ble_eq_true rfl) ?_
    refine sl_nil ?_
    refine sw_seq ?_
    refine sl_region ?_
    refine sl_as rfl rfl rfl ?_
    refine sl_nil ?_
    refine sw_ret ⟨rfl, _, _, res_one rfl rfl, ?_, by rw [rdOf_bad (by rw [hm]; rfl)]; exact ⟨rfl, _, ⟨l, rfl⟩, rfl⟩⟩
    repeat constructor
  obtain ⟨x, m, rfl⟩ : ∃ x m, l = x :: m := by
    cases l with
    | nil => simp at hc
    | cons x m => exact ⟨x, m, rfl⟩
  refine sl_guard_y rfl rfl rfl hc ?_
  refine sl_mv rfl rfl rfl ?_
  refine sl_guard_y rfl rfl rfl hc ?_
  refine sl_nc rfl rfl rfl rfl ?_
  refine sl_guard_y rfl rfl rfl hc ?_
  first
    | refine sl_fieldAddr_ptr rfl rfl rfl fo_80_0 ?_
    | refine sl_fieldAddr_rp rfl rfl rfl fo_80_0 ?_
    | refine sl_fieldAddr_ref rfl rfl rfl fo_80_0 ?_
  refine sl_guard_y rfl rfl rfl hc ?_
  first
    | refine sl_load_rp1 rfl rfl rfl ag_26 rfl ?_
    | refine sl_load_blk1 rfl rfl rfl ag_26 (by repeat constructor) rfl ?_
  refine sl_guard_y rfl rfl rfl hc ?_
  refine sl_indexAddr' rfl rfl rfl rfl u_26 sz_5 (by decide) rfl rfl ?_
  refine sl_guard_y rfl rfl rfl hc ?_
  first
    | refine sl_load_rp1 rfl rfl rfl ag_5 rfl ?_
    | refine sl_load_blk1 rfl rfl rfl ag_5 (by repeat constructor) rfl ?_
  refine sl_guard_y rfl rfl rfl hc ?_
  refine sl_bin rfl rfl rfl rfl rfl ?_
  refine sl_pk_f rfl rfl rfl hc rfl ?_
  refine sl_nil ?_
  refine sw_cond rfl (fun hb => ?_) (fun hb => ?_)
  · have hb : ¬ x.toNat ≤ 1 := by have := of_decide_eq_true hb; omega
    refine sw_seq ?_
    refine sl_region ?_
    refine sl_mv rfl rfl rfl ?_
    refine sl_nc rfl rfl rfl rfl ?_
    first
      | refine sl_fieldAddr_ptr rfl rfl rfl fo_80_1 ?_
      | refine sl_fieldAddr_rp rfl rfl rfl fo_80_1 ?_
      | refine sl_fieldAddr_ref rfl rfl rfl fo_80_1 ?_
    refine sl_stp rfl rfl rfl rfl sz_4 rfl rfl rfl (by repeat constructor) (Nat.le_of_ble_eq_true rfl) ?_
    refine sl_nil ?_
    refine sw_seq ?_
    refine sl_region ?_
    refine sl_as rfl rfl rfl ?_
    refine sl_nil ?_
    refine sw_ret ⟨rfl, _, _, res_one rfl rfl, ?_, by rw [rdOf_bad (if_neg hb)]; exact ⟨rfl, _, ⟨x :: m, rfl⟩, rfl⟩⟩
    repeat constructor
  have hb : x.toNat ≤ 1 := by have := of_decide_eq_false hb; omega
  refine sw_skip ?_
  refine sw_seq ?_
  refine sl_region ?_
  refine sl_mv rfl rfl rfl ?_
  refine sl_nc rfl rfl rfl rfl ?_
  first
    | refine sl_fieldAddr_ptr rfl rfl rfl fo_80_0 ?_
    | refine sl_fieldAddr_rp rfl rfl rfl fo_80_0 ?_
    | refine sl_fieldAddr_ref rfl rfl rfl fo_80_0 ?_
  first
    | refine sl_load_rp1 rfl rfl rfl ag_26 rfl ?_
    | refine sl_load_blk1 rfl rfl rfl ag_26 (by repeat constructor) rfl ?_
  refine sl_indexAddr' rfl rfl rfl rfl u_26 sz_5 (by decide) rfl rfl ?_
  first
    | refine sl_load_rp1 rfl rfl rfl ag_5 rfl ?_
    | refine sl_load_blk1 rfl rfl rfl ag_5 (by repeat constructor) rfl ?_
  refine sl_bin rfl rfl rfl rfl rfl ?_
  refine sl_set 34 (.val (boolV (x.toNat == 1))) (is_one x) ?_
  refine sl_as rfl rfl rfl ?_
  refine sl_nil ?_
  refine sw_seq ?_
  refine sl_region ?_
  refine sl_mv rfl rfl rfl ?_
  refine sl_mv rfl rfl rfl ?_
  refine sl_nc rfl rfl rfl rfl ?_
  first
    | refine sl_fieldAddr_ptr rfl rfl rfl fo_80_0 ?_
    | refine sl_fieldAddr_rp rfl rfl rfl fo_80_0 ?_
    | refine sl_fieldAddr_ref rfl rfl rfl fo_80_0 ?_
  first
    | refine sl_load_rp1 rfl rfl rfl ag_26 rfl ?_
    | refine sl_load_blk1 rfl rfl rfl ag_26 (by repeat constructor) rfl ?_
  refine sl_slice_list 1 _ rfl rfl rfl u_26 sz_5 (fun x hx => (SzI.get (by repeat constructor) x hx).1) ⟨_, rfl⟩ rfl (by simp) (Nat.le_refl _) ?_
  refine sl_set 40 (.val (.list (m.map byteV))) (drop_one x m) ?_
  refine sl_nc rfl rfl rfl rfl ?_
  first
    | refine sl_fieldAddr_ptr rfl rfl rfl fo_80_0 ?_
    | refine sl_fieldAddr_rp rfl rfl rfl fo_80_0 ?_
    | refine sl_fieldAddr_ref rfl rfl rfl fo_80_0 ?_
  refine sl_stp rfl rfl rfl rfl sz_26 rfl rfl rfl (by repeat constructor) (Nat.le_of_ble_eq_true rfl) ?_
  refine sl_nil ?_
  refine sw_seq ?_
  refine sl_region ?_
  refine sl_mv rfl rfl rfl ?_
  refine sl_as rfl rfl rfl ?_
  refine sl_nil ?_
  refine sw_ret ⟨rfl, _, _, res_one rfl rfl, ?_, by rw [rdOf_good (if_pos hb)]; exact ⟨rfl, _, ⟨rfl, by simp at hl; omega⟩, rfl⟩⟩
  repeat constructor

theorem ybool_bad (q : Nat) (l : List UInt8) (σ : List Chunk) : FSpec Try.prog 43 [.ptr q 0] (rd q l true :: σ) (fun d σ' => d = .val (boolV false) ∧ σ' = rd q l true :: σ) := by
  refine spec_of_sw Try.func43 rfl ?_
  refine sw_seq ?_
  refine sl_region ?_
  refine sl_as rfl rfl rfl ?_
  refine sl_nil ?_
  refine sw_seq ?_
  refine sw_seq ?_
  refine sl_region ?_
  refine sl_mv rfl rfl rfl ?_
  refine sl_nc rfl rfl rfl rfl ?_
  first
    | refine sl_fieldAddr_ptr rfl rfl rfl fo_80_1 ?_
    | refine sl_fieldAddr_rp rfl rfl rfl fo_80_1 ?_
    | refine sl_fieldAddr_ref rfl rfl rfl fo_80_1 ?_
  first
    | refine sl_load_rp1 rfl rfl rfl ag_4 rfl ?_
    | refine sl_load_blk1 rfl rfl rfl ag_4 (by repeat constructor) rfl ?_
  refine sl_mv rfl rfl rfl ?_
  refine sl_guard_n rfl rfl rfl (rfl) ?_
  refine sl_guard_n rfl rfl rfl (rfl) ?_
  refine sl_guard_n rfl rfl rfl (rfl) ?_
  refine sl_guard_n rfl rfl rfl (rfl) ?_
  refine sl_guard_n rfl rfl rfl (rfl) ?_
  refine sl_guard_n rfl rfl rfl (rfl) ?_
  refine sl_pk_t rfl rfl rfl (rfl) rfl ?_
  refine sl_mv rfl rfl rfl ?_
  refine sl_guard_n rfl rfl rfl (rfl) ?_
  refine sl_guard_n rfl rfl rfl (rfl) ?_
  refine sl_guard_n rfl rfl rfl (rfl) ?_
  refine sl_guard_n rfl rfl rfl (rfl) ?_
  refine sl_guard_n rfl rfl rfl (rfl) ?_
  refine sl_guard_n rfl rfl rfl (rfl) ?_
  refine sl_guard_n rfl rfl rfl (rfl) ?_
  refine sl_pk_t rfl rfl rfl (rfl) rfl ?_
  refine sl_nil ?_
  refine sw_true rfl (rfl) ?_
  refine sw_seq ?_
  refine sl_region ?_
  refine sl_mv rfl rfl rfl ?_
  refine sl_nc rfl rfl rfl rfl ?_
  first
    | refine sl_fieldAddr_ptr rfl rfl rfl fo_80_1 ?_
    | refine sl_fieldAddr_rp rfl rfl rfl fo_80_1 ?_
    | refine sl_fieldAddr_ref rfl rfl rfl fo_80_1 ?_
  refine sl_stp rfl rfl rfl rfl sz_4 rfl rfl rfl (by repeat constructor) (Nat.le_of_ble_eq_true rfl) ?_
  refine sl_nil ?_
  refine sw_seq ?_
  refine sl_region ?_
  refine sl_as rfl rfl rfl ?_
  refine sl_nil ?_
  refine sw_ret ⟨rfl, _, _, res_one rfl rfl, ?_, ⟨rfl, rfl⟩⟩
  repeat constructor

theorem ybool_ok (q : Nat) (st : Option (List UInt8)) (c : Chunk) (σ : List Chunk) (h : Rdr q st c) :
    FSpec Try.prog 43 [.ptr q 0] (c :: σ) (fun d σ' => d = .val (boolV (rdOf decB false st).1) ∧ ∃ c', Rdr q (rdOf decB false st).2 c' ∧ σ' = c' :: σ) := by
  cases st with
  | some l => obtain ⟨rfl, hl⟩ := h; exact ybool_good q l σ hl
  | none => obtain ⟨r, rfl⟩ := h; exact (ybool_bad q r σ).mono fun d σ' h => ⟨h.1, _, ⟨r, rfl⟩, h.2⟩

theorem ysmall_good (q : Nat) (l : List UInt8) (σ : List Chunk) (hl : l.length ≤ 100000000) :
    FSpec Try.prog 90 [.ptr q 0] (rd q l false :: σ) (fun d σ' => d = .val (i64V (rdOf decS 0 (some l)).1) ∧ ∃ c', Rdr q (rdOf decS 0 (some l)).2 c' ∧ σ' = c' :: σ) := by
  refine spec_of_sw Try.func90 rfl ?_
  refine sw_seq ?_
  refine sl_region ?_
  refine sl_as rfl rfl rfl ?_
  refine sl_nil ?_
  refine sw_seq ?_
  refine sl_region ?_
  refine sl_mv rfl rfl rfl ?_
  refine sl_callf rfl rfl cal_82 (yint_ok q (some l) (rd q l false) σ ⟨rfl, hl⟩) ?_ ?_ ?_ (fun _ _ h => h.elim)
  · repeat constructor
  · repeat constructor
  rintro _ _ ⟨rfl, c2, h2, rfl⟩
  rcases hdec : decI l with _ | ⟨n, r⟩
  · rw [rdOf_bad hdec] at h2 ⊢
    obtain ⟨r, rfl⟩ := h2
    refine sl_as rfl rfl rfl ?_
    refine sl_nil ?_
    refine sw_seq ?_
    refine sw_seq ?_
    refine sl_region ?_
    refine sl_mv rfl rfl rfl ?_
    refine sl_bin rfl rfl rfl rfl rfl ?_
    refine sl_mv rfl rfl rfl ?_
    refine sl_guard_y rfl rfl rfl (rfl) ?_
    refine sl_mv rfl rfl rfl ?_
    refine sl_guard_y rfl rfl rfl (rfl) ?_
    refine sl_bin rfl rfl rfl rfl rfl ?_
    refine sl_pk_f rfl rfl rfl (rfl) rfl ?_
    refine sl_nil ?_
    refine sw_false rfl (rfl) ?_
    refine sw_skip ?_
    refine sw_seq ?_
    refine sl_region ?_
    refine sl_mv rfl rfl rfl ?_
    refine sl_as rfl rfl rfl ?_
    refine sl_nil ?_
    refine sw_ret ⟨rfl, _, _, res_one rfl rfl, ?_, by rw [rdOf_bad (by unfold decS bindR; rw [hdec])]; exact ⟨rfl, _, ⟨r, rfl⟩, rfl⟩⟩
    repeat constructor
  rw [rdOf_good hdec] at h2 ⊢
  obtain ⟨rfl, hr⟩ := h2
  refine sl_as rfl rfl rfl ?_
  refine sl_nil ?_
  refine sw_seq ?_
  refine sw_seq ?_
  refine sl_region ?_
  refine sl_mv rfl rfl rfl ?_
  refine sl_bin rfl rfl rfl rfl rfl ?_
  refine sl_mv rfl rfl rfl ?_
  refine sl_case_at 8 rfl (fun ha => ?_) (fun ha => ?_)
  · refine sl_guard_n rfl rfl rfl ha ?_
    refine sl_guard_n rfl rfl rfl ha ?_
    refine sl_pk_t rfl rfl rfl ha rfl ?_
    refine sl_nil ?_
    refine sw_true rfl (rfl) ?_
    have hn : ¬ isI32 n := by intro h; have := of_decide_eq_true ha; have := h.1; omega
    refine sw_seq ?_
    refine sl_region ?_
    refine sl_mv rfl rfl rfl ?_
    refine sl_nc rfl rfl rfl rfl ?_
    first
      | refine sl_fieldAddr_ptr rfl rfl rfl fo_80_1 ?_
      | refine sl_fieldAddr_rp rfl rfl rfl fo_80_1 ?_
      | refine sl_fieldAddr_ref rfl rfl rfl fo_80_1 ?_
    refine sl_stp rfl rfl rfl rfl sz_4 rfl rfl rfl (by repeat constructor) (Nat.le_of_ble_eq_true rfl) ?_
    refine sl_nil ?_
    refine sw_seq ?_
    refine sl_region ?_
    refine sl_as rfl rfl rfl ?_
    refine sl_nil ?_
    refine sw_ret ⟨rfl, _, _, res_one rfl rfl, ?_, by rw [rdOf_bad (by unfold decS bindR; rw [hdec]; exact if_neg hn)]; exact ⟨rfl, _, ⟨r, rfl⟩, rfl⟩⟩
    repeat constructor
  refine sl_guard_y rfl rfl rfl ha ?_
  refine sl_mv rfl rfl rfl ?_
  refine sl_guard_y rfl rfl rfl ha ?_
  refine sl_bin rfl rfl rfl rfl rfl ?_
  refine sl_pk_f rfl rfl rfl ha rfl ?_
  refine sl_nil ?_
  refine sw_cond rfl (fun hb => ?_) (fun hb => ?_)
  · have hn : ¬ isI32 n := by intro h; have := of_decide_eq_true hb; have := h.2; omega
    refine sw_seq ?_
    refine sl_region ?_
    refine sl_mv rfl rfl rfl ?_
    refine sl_nc rfl rfl rfl rfl ?_
    first
      | refine sl_fieldAddr_ptr rfl rfl rfl fo_80_1 ?_
      | refine sl_fieldAddr_rp rfl rfl rfl fo_80_1 ?_
      | refine sl_fieldAddr_ref rfl rfl rfl fo_80_1 ?_
    refine sl_stp rfl rfl rfl rfl sz_4 rfl rfl rfl (by repeat constructor) (Nat.le_of_ble_eq_true rfl) ?_
    refine sl_nil ?_
    refine sw_seq ?_
    refine sl_region ?_
    refine sl_as rfl rfl rfl ?_
    refine sl_nil ?_
    refine sw_ret ⟨rfl, _, _, res_one rfl rfl, ?_, by rw [rdOf_bad (by unfold decS bindR; rw [hdec]; exact if_neg hn)]; exact ⟨rfl, _, ⟨r, rfl⟩, rfl⟩⟩
    repeat constructor
  have hn : isI32 n := ⟨by have := of_decide_eq_false ha; omega, by have := of_decide_eq_false hb; omega⟩
  refine sw_skip ?_
  refine sw_seq ?_
  refine sl_region ?_
  refine sl_mv rfl rfl rfl ?_
  refine sl_as rfl rfl rfl ?_
  refine sl_nil ?_
  refine sw_ret ⟨rfl, _, _, res_one rfl rfl, ?_, by rw [rdOf_good (v := n) (r := r) (by unfold decS bindR; rw [hdec]; exact if_pos hn)]; exact ⟨rfl, _, ⟨rfl, hr⟩, rfl⟩⟩
  repeat constructor

theorem ysmall_bad (q : Nat) (l : List UInt8) (σ : List Chunk) : FSpec Try.prog 90 [.ptr q 0] (rd q l true :: σ) (fun d σ' => d = .val (i64V 0) ∧ ∃ r, σ' = rd q r true :: σ) := by
  refine spec_of_sw Try.func90 rfl ?_
  refine sw_seq ?_
  refine sl_region ?_
  refine sl_as rfl rfl rfl ?_
  refine sl_nil ?_
  refine sw_seq ?_
  refine sl_region ?_
  refine sl_mv rfl rfl rfl ?_
  refine sl_callf rfl rfl cal_82 (yint_ok q none (rd q l true) σ ⟨l, rfl⟩) ?_ ?_ ?_ (fun _ _ h => h.elim)
  · repeat constructor
  · repeat constructor
  rintro _ _ ⟨rfl, c2, h2, rfl⟩
  obtain ⟨r, rfl⟩ := h2
  refine sl_as rfl rfl rfl ?_
  refine sl_nil ?_
  refine sw_seq ?_
  refine sw_seq ?_
  refine sl_region ?_
  refine sl_mv rfl rfl rfl ?_
  refine sl_bin rfl rfl rfl rfl rfl ?_
  refine sl_mv rfl rfl rfl ?_
  refine sl_guard_y rfl rfl rfl (rfl) ?_
  refine sl_mv rfl rfl rfl ?_
  refine sl_guard_y rfl rfl rfl (rfl) ?_
  refine sl_bin rfl rfl rfl rfl rfl ?_
  refine sl_pk_f rfl rfl rfl (rfl) rfl ?_
  refine sl_nil ?_
  refine sw_false rfl (rfl) ?_
  refine sw_skip ?_
  refine sw_seq ?_
  refine sl_region ?_
  refine sl_mv rfl rfl rfl ?_
  refine sl_as rfl rfl rfl ?_
  refine sl_nil ?_
  refine sw_ret ⟨rfl, _, _, res_one rfl rfl, ?_, ⟨rfl, r, rfl⟩⟩
  repeat constructor

theorem ysmall_ok (q : Nat) (st : Option (List UInt8)) (c : Chunk) (σ : List Chunk) (h : Rdr q st c) :
    FSpec Try.prog 90 [.ptr q 0] (c :: σ) (fun d σ' => d = .val (i64V (rdOf decS 0 st).1) ∧ ∃ c', Rdr q (rdOf decS 0 st).2 c' ∧ σ' = c' :: σ) := by
  cases st with
  | some l => obtain ⟨rfl, hl⟩ := h; exact ysmall_good q l σ hl
  | none => obtain ⟨r, rfl⟩ := h; exact (ysmall_bad q r σ).mono fun d σ' h => by obtain ⟨h1, r2, h2⟩ := h; exact ⟨h1, _, ⟨r2, rfl⟩, h2⟩

end Go.Proofs.Ytioechdfghglhaa

/- Walks: printed by a program of this session out of its script CodeN. -/
namespace Go.Proofs.Ytioechdfghglhaa
set_option linter.unusedVariables false
set_option linter.unusedSimpArgs false
set_option maxRecDepth 4000
set_option maxHeartbeats 4000000
open Go Go.RowKit SL


/-- The document's reader: an interval. -/
theorem yival_ok (q : Nat) (st : Option (List UInt8)) (c : Chunk) (σ : List Chunk) (h : Rdr q st c) :
    FSpec Try.prog 87 [.ptr q 0] (c :: σ) (fun d σ' => ∃ i st' c', d = .val (ivlV i) ∧ Out decV st i st' ∧ Rdr q st' c' ∧ σ' = c' :: σ) := by
  have o1 := out_rdOf (dec := decB) (z := false) st
  refine spec_of_sw Try.func87 rfl ?_
  refine sw_seq ?_
  refine sl_region ?_
  refine sl_alloc rfl rfl zd_69 (fun b2 => ?_)
  refine sl_nil ?_
  refine sw_seq ?_
  refine sl_region ?_
  refine sl_alloc rfl rfl zd_69 (fun b3 => ?_)
  refine sl_nil ?_
  refine sw_seq ?_
  refine sw_seq ?_
  refine sl_region ?_
  refine sl_mv rfl rfl rfl ?_
  refine sl_callf rfl rfl cal_43 (ybool_ok q st c (.blk b2 [.val (.bool false), .val (.int .i64 0), .val (.int .i64 0)] :: .blk b3 [.val (.bool false), .val (.int .i64 0), .val (.int .i64 0)] :: σ) h) ?_ ?_ ?_ (fun _ _ h => h.elim)
  · repeat constructor
  · repeat constructor
  rintro _ _ ⟨rfl, c1, h1, rfl⟩
  obtain ⟨b, hb⟩ : ∃ b, b = (rdOf decB false st).1 := ⟨_, rfl⟩
  obtain ⟨st1, hst1⟩ : ∃ b, b = (rdOf decB false st).2 := ⟨_, rfl⟩
  rw [← hb, ← hst1] at o1
  rw [← hst1] at h1
  rw [← hb]
  refine sl_nil ?_
  refine sw_cond rfl (fun ht => ?_) (fun ht => ?_)
  · obtain rfl : b = true := ht
    have o2 := out_rdOf (dec := decI) (z := 0) st1
    have o3 := out_rdOf (dec := decI) (z := 0) (rdOf decI 0 st1).2
    refine sw_seq ?_
    refine sl_region ?_
    first
      | refine sl_fieldAddr_ptr rfl rfl rfl fo_69_0 ?_
      | refine sl_fieldAddr_rp rfl rfl rfl fo_69_0 ?_
      | refine sl_fieldAddr_ref rfl rfl rfl fo_69_0 ?_
    refine sl_stp rfl rfl rfl rfl sz_4 rfl rfl rfl (by repeat constructor) (Nat.le_of_ble_eq_true rfl) ?_
    refine sl_nil ?_
    refine sw_seq ?_
    refine sl_region ?_
    refine sl_mv rfl rfl rfl ?_
    refine sl_callf rfl rfl cal_82 (yint_ok q st1 c1 (.blk b2 [.val (.bool false), .val (.int .i64 0), .val (.int .i64 0)] :: .blk b3 [.val (.bool true), .val (.int .i64 0), .val (.int .i64 0)] :: σ) h1) ?_ ?_ ?_ (fun _ _ h => h.elim)
    · repeat constructor
    · repeat constructor
    rintro _ _ ⟨rfl, c2, h2, rfl⟩
    first
      | refine sl_fieldAddr_ptr rfl rfl rfl fo_69_1 ?_
      | refine sl_fieldAddr_rp rfl rfl rfl fo_69_1 ?_
      | refine sl_fieldAddr_ref rfl rfl rfl fo_69_1 ?_
    refine sl_stp rfl rfl rfl rfl sz_2 rfl rfl rfl (by repeat constructor) (Nat.le_of_ble_eq_true rfl) ?_
    refine sl_nil ?_
    refine sl_region ?_
    refine sl_mv rfl rfl rfl ?_
    refine sl_callf rfl rfl cal_82 (yint_ok q (rdOf decI 0 st1).2 c2 (.blk b2 [.val (.bool false), .val (.int .i64 0), .val (.int .i64 0)] :: .blk b3 [.val (.bool true), .val (i64V (rdOf decI 0 st1).1), .val (.int .i64 0)] :: σ) h2) ?_ ?_ ?_ (fun _ _ h => h.elim)
    · repeat constructor
    · repeat constructor
    rintro _ _ ⟨rfl, c3, h3, rfl⟩
    first
      | refine sl_fieldAddr_ptr rfl rfl rfl fo_69_2 ?_
      | refine sl_fieldAddr_rp rfl rfl rfl fo_69_2 ?_
      | refine sl_fieldAddr_ref rfl rfl rfl fo_69_2 ?_
    refine sl_stp rfl rfl rfl rfl sz_2 rfl rfl rfl (by repeat constructor) (Nat.le_of_ble_eq_true rfl) ?_
    refine sl_nil ?_
    refine sw_seq ?_
    refine sl_region ?_
    first
      | refine sl_load_rpn rfl rfl rfl ag_69 sz_69 (Nat.le_of_ble_eq_true rfl) ?_
      | refine sl_load_blkn rfl rfl rfl ag_69 sz_69 (by repeat constructor) (Nat.le_of_ble_eq_true rfl) ?_
      | refine sl_load_ref rfl rfl rfl ag_69 sz_69 (Nat.le_of_ble_eq_true rfl) ?_
    refine sl_stp rfl rfl rfl rfl sz_69 rfl rfl rfl (by repeat constructor) (Nat.le_of_ble_eq_true rfl) ?_
    refine sl_nil ?_
    refine sw_ret ⟨rfl, _, _, ResD.weak (res_celln rfl rfl ag_69 sz_69 (by repeat constructor) (Nat.le_of_ble_eq_true rfl)) ((Weak.toV rfl) ), ?_, ⟨⟨true, (rdOf decI 0 st1).1, (rdOf decI 0 (rdOf decI 0 st1).2).1⟩, _, c3, rfl, ival_true o1 o2 o3, h3, rfl⟩⟩
    repeat constructor
  obtain rfl : b = false := ht
  refine sw_skip ?_
  refine sw_seq ?_
  refine sl_region ?_
  first
    | refine sl_load_rpn rfl rfl rfl ag_69 sz_69 (Nat.le_of_ble_eq_true rfl) ?_
    | refine sl_load_blkn rfl rfl rfl ag_69 sz_69 (by repeat constructor) (Nat.le_of_ble_eq_true rfl) ?_
    | refine sl_load_ref rfl rfl rfl ag_69 sz_69 (Nat.le_of_ble_eq_true rfl) ?_
  refine sl_stp rfl rfl rfl rfl sz_69 rfl rfl rfl (by repeat constructor) (Nat.le_of_ble_eq_true rfl) ?_
  refine sl_nil ?_
  refine sw_ret ⟨rfl, _, _, ResD.weak (res_celln rfl rfl ag_69 sz_69 (by repeat constructor) (Nat.le_of_ble_eq_true rfl)) ((Weak.toV rfl) ), ?_, ⟨noIval, st1, c1, rfl, ival_false o1, h1, rfl⟩⟩
  repeat constructor

/-- The document's reader: alarms. -/
theorem yalarms_ok (q : Nat) (st : Option (List UInt8)) (c : Chunk) (σ : List Chunk) (h : Rdr q st c) :
    FSpec Try.prog 86 [.ptr q 0] (c :: σ) (fun d σ' => ∃ al st' c', d = .val (.list (al.map almV)) ∧ Out decAl st al st' ∧ Rdr q st' c' ∧ σ' = c' :: σ) := by
  have o1 := out_rdOf (dec := decN 0) (z := 0) st
  obtain ⟨n, hn⟩ : ∃ b, b = (rdOf (decN 0) 0 st).1 := ⟨_, rfl⟩
  obtain ⟨st1, hst1⟩ : ∃ b, b = (rdOf (decN 0) 0 st).2 := ⟨_, rfl⟩
  have hlt := rdOf_lt (st := st)
  rw [← hn] at hlt
  rw [← hn, ← hst1] at o1
  refine spec_of_sw Try.func86 rfl ?_
  refine sw_seq ?_
  refine sl_region ?_
  refine sl_as rfl rfl rfl ?_
  refine sl_nil ?_
  refine sw_seq ?_
  refine sl_region ?_
  refine sl_mv rfl rfl rfl ?_
  refine sl_callf rfl rfl cal_40 (ynum_ok q st c σ h) ?_ ?_ ?_ (fun _ _ h => h.elim)
  · repeat constructor
  · repeat constructor
  rintro _ _ ⟨rfl, c1, h1, rfl⟩
  rw [← hst1] at h1
  rw [← hn]
  rcases st1 with _ | r
  · obtain ⟨r, rfl⟩ := h1
    refine sl_as rfl rfl rfl ?_
    refine sl_nil ?_
    refine sw_seq ?_
    refine sw_seq ?_
    refine sl_region ?_
    refine sl_mv rfl rfl rfl ?_
    refine sl_mv rfl rfl rfl ?_
    refine sl_nc rfl rfl rfl rfl ?_
    first
      | refine sl_fieldAddr_ptr rfl rfl rfl fo_80_0 ?_
      | refine sl_fieldAddr_rp rfl rfl rfl fo_80_0 ?_
      | refine sl_fieldAddr_ref rfl rfl rfl fo_80_0 ?_
    first
      | refine sl_load_rp1 rfl rfl rfl ag_26 rfl ?_
      | refine sl_load_blk1 rfl rfl rfl ag_26 (by repeat constructor) rfl ?_
    first
      | refine sl_len rfl rfl rfl ⟨_, u_26⟩ ?_
      | refine sl_len_sl rfl rfl rfl ⟨_, u_26⟩ ?_
      | refine sl_len_w _ rfl rfl rfl ⟨_, u_26⟩ ?_
    refine sl_conv_int rfl rfl rfl is_3 u_37 ?_
    refine sl_bin rfl rfl rfl rfl rfl ?_
    refine sl_nil ?_
    refine sw_cond rfl (fun hg => ?_) (fun hg => ?_)
    · refine sl_region ?_
      refine sl_mv rfl rfl rfl ?_
      refine sl_nc rfl rfl rfl rfl ?_
      first
        | refine sl_fieldAddr_ptr rfl rfl rfl fo_80_1 ?_
        | refine sl_fieldAddr_rp rfl rfl rfl fo_80_1 ?_
        | refine sl_fieldAddr_ref rfl rfl rfl fo_80_1 ?_
      refine sl_stp rfl rfl rfl rfl sz_4 rfl rfl rfl (by repeat constructor) (Nat.le_of_ble_eq_true rfl) ?_
      refine sl_nil ?_
      refine sw_seq ?_
      refine sl_region ?_
      refine sl_as rfl rfl rfl ?_
      refine sl_nil ?_
      refine sw_seq ?_
      refine sw_seq ?_
      refine sl_region ?_
      refine sl_as rfl rfl rfl ?_
      refine sl_nil ?_
      refine sw_block ?_
      refine sw_loopw (fun nX sX δX σX => ∃ (j : Nat), (1) = nX ∧ sX = ⟨48, (.cons 0 (.ptr q 0) (.cons 3 (.val (u64V n)) (.cons 5 (.val (.int .u64 (j : Int))) .nil)))⟩ ∧ δX = [] ∧ σX = rd q r true :: σ) ?_ ?_
      · refine ⟨_, _, _, ?_, ?_, 0, rfl, rfl, rfl, rfl⟩
        · exact ⟨rfl, by repeat constructor⟩
        · repeat constructor
      rintro nX sX δX σX ⟨j, rfl, rfl, rfl, rfl⟩
      refine sw_seq ?_
      refine sw_seq ?_
      refine sl_region ?_
      refine sl_mv rfl rfl rfl ?_
      refine sl_mv rfl rfl rfl ?_
      refine sl_bin rfl rfl rfl rfl rfl ?_
      refine sl_mv rfl rfl rfl ?_
      refine sl_case_at 24 rfl (fun hj => ?_) (fun hj => ?_)
      · refine sl_guard_y rfl rfl rfl hj ?_
        refine sl_mv rfl rfl rfl ?_
        refine sl_guard_y rfl rfl rfl hj ?_
        refine sl_nc rfl rfl rfl rfl ?_
        refine sl_guard_y rfl rfl rfl hj ?_
        first
          | refine sl_fieldAddr_ptr rfl rfl rfl fo_80_1 ?_
          | refine sl_fieldAddr_rp rfl rfl rfl fo_80_1 ?_
          | refine sl_fieldAddr_ref rfl rfl rfl fo_80_1 ?_
        refine sl_guard_y rfl rfl rfl hj ?_
        first
          | refine sl_load_rp1 rfl rfl rfl ag_4 rfl ?_
          | refine sl_load_blk1 rfl rfl rfl ag_4 (by repeat constructor) rfl ?_
        refine sl_guard_y rfl rfl rfl hj ?_
        refine sl_not rfl rfl rfl ?_
        refine sl_pk_t rfl rfl rfl hj rfl ?_
        refine sl_nil ?_
        refine sw_false rfl (rfl) ?_
        refine sw_exit ?_
        refine sw_seq ?_
        refine sw_seq ?_
        refine sl_region ?_
        refine sl_mv rfl rfl rfl ?_
        refine sl_nc rfl rfl rfl rfl ?_
        first
          | refine sl_fieldAddr_ptr rfl rfl rfl fo_80_1 ?_
          | refine sl_fieldAddr_rp rfl rfl rfl fo_80_1 ?_
          | refine sl_fieldAddr_ref rfl rfl rfl fo_80_1 ?_
        first
          | refine sl_load_rp1 rfl rfl rfl ag_4 rfl ?_
          | refine sl_load_blk1 rfl rfl rfl ag_4 (by repeat constructor) rfl ?_
        refine sl_nil ?_
        refine sw_true rfl (rfl) ?_
        refine sw_seq ?_
        refine sl_region ?_
        refine sl_as rfl rfl rfl ?_
        refine sl_nil ?_
        refine sw_ret ⟨rfl, _, _, ResD.weak (res_one rfl rfl) ((Weak.toV rfl) ), ?_, ⟨[], none, _, rfl, al_none o1, ⟨r, rfl⟩, rfl⟩⟩
        repeat constructor
      refine sl_guard_n rfl rfl rfl hj ?_
      refine sl_guard_n rfl rfl rfl hj ?_
      refine sl_guard_n rfl rfl rfl hj ?_
      refine sl_guard_n rfl rfl rfl hj ?_
      refine sl_guard_n rfl rfl rfl hj ?_
      refine sl_pk_f rfl rfl rfl hj rfl ?_
      refine sl_nil ?_
      refine sw_false rfl (rfl) ?_
      refine sw_exit ?_
      refine sw_seq ?_
      refine sw_seq ?_
      refine sl_region ?_
      refine sl_mv rfl rfl rfl ?_
      refine sl_nc rfl rfl rfl rfl ?_
      first
        | refine sl_fieldAddr_ptr rfl rfl rfl fo_80_1 ?_
        | refine sl_fieldAddr_rp rfl rfl rfl fo_80_1 ?_
        | refine sl_fieldAddr_ref rfl rfl rfl fo_80_1 ?_
      first
        | refine sl_load_rp1 rfl rfl rfl ag_4 rfl ?_
        | refine sl_load_blk1 rfl rfl rfl ag_4 (by repeat constructor) rfl ?_
      refine sl_nil ?_
      refine sw_true rfl (rfl) ?_
      refine sw_seq ?_
      refine sl_region ?_
      refine sl_as rfl rfl rfl ?_
      refine sl_nil ?_
      refine sw_ret ⟨rfl, _, _, ResD.weak (res_one rfl rfl) ((Weak.toV rfl) ), ?_, ⟨[], none, _, rfl, al_none o1, ⟨r, rfl⟩, rfl⟩⟩
      repeat constructor
    refine sw_skip ?_
    refine sw_seq ?_
    refine sl_region ?_
    refine sl_as rfl rfl rfl ?_
    refine sl_nil ?_
    refine sw_seq ?_
    refine sw_seq ?_
    refine sl_region ?_
    refine sl_as rfl rfl rfl ?_
    refine sl_nil ?_
    refine sw_block ?_
    refine sw_loopw (fun nX sX δX σX => ∃ (j : Nat), (1) = nX ∧ sX = ⟨48, (.cons 0 (.ptr q 0) (.cons 3 (.val (u64V n)) (.cons 5 (.val (.int .u64 (j : Int))) .nil)))⟩ ∧ δX = [] ∧ σX = rd q r true :: σ) ?_ ?_
    · refine ⟨_, _, _, ?_, ?_, 0, rfl, rfl, rfl, rfl⟩
      · exact ⟨rfl, by repeat constructor⟩
      · repeat constructor
    rintro nX sX δX σX ⟨j, rfl, rfl, rfl, rfl⟩
    refine sw_seq ?_
    refine sw_seq ?_
    refine sl_region ?_
    refine sl_mv rfl rfl rfl ?_
    refine sl_mv rfl rfl rfl ?_
    refine sl_bin rfl rfl rfl rfl rfl ?_
    refine sl_mv rfl rfl rfl ?_
    refine sl_case_at 24 rfl (fun hj => ?_) (fun hj => ?_)
    · refine sl_guard_y rfl rfl rfl hj ?_
      refine sl_mv rfl rfl rfl ?_
      refine sl_guard_y rfl rfl rfl hj ?_
      refine sl_nc rfl rfl rfl rfl ?_
      refine sl_guard_y rfl rfl rfl hj ?_
      first
        | refine sl_fieldAddr_ptr rfl rfl rfl fo_80_1 ?_
        | refine sl_fieldAddr_rp rfl rfl rfl fo_80_1 ?_
        | refine sl_fieldAddr_ref rfl rfl rfl fo_80_1 ?_
      refine sl_guard_y rfl rfl rfl hj ?_
      first
        | refine sl_load_rp1 rfl rfl rfl ag_4 rfl ?_
        | refine sl_load_blk1 rfl rfl rfl ag_4 (by repeat constructor) rfl ?_
      refine sl_guard_y rfl rfl rfl hj ?_
      refine sl_not rfl rfl rfl ?_
      refine sl_pk_t rfl rfl rfl hj rfl ?_
      refine sl_nil ?_
      refine sw_false rfl (rfl) ?_
      refine sw_exit ?_
      refine sw_seq ?_
      refine sw_seq ?_
      refine sl_region ?_
      refine sl_mv rfl rfl rfl ?_
      refine sl_nc rfl rfl rfl rfl ?_
      first
        | refine sl_fieldAddr_ptr rfl rfl rfl fo_80_1 ?_
        | refine sl_fieldAddr_rp rfl rfl rfl fo_80_1 ?_
        | refine sl_fieldAddr_ref rfl rfl rfl fo_80_1 ?_
      first
        | refine sl_load_rp1 rfl rfl rfl ag_4 rfl ?_
        | refine sl_load_blk1 rfl rfl rfl ag_4 (by repeat constructor) rfl ?_
      refine sl_nil ?_
      refine sw_true rfl (rfl) ?_
      refine sw_seq ?_
      refine sl_region ?_
      refine sl_as rfl rfl rfl ?_
      refine sl_nil ?_
      refine sw_ret ⟨rfl, _, _, ResD.weak (res_one rfl rfl) ((Weak.toV rfl) ), ?_, ⟨[], none, _, rfl, al_none o1, ⟨r, rfl⟩, rfl⟩⟩
      repeat constructor
    refine sl_guard_n rfl rfl rfl hj ?_
    refine sl_guard_n rfl rfl rfl hj ?_
    refine sl_guard_n rfl rfl rfl hj ?_
    refine sl_guard_n rfl rfl rfl hj ?_
    refine sl_guard_n rfl rfl rfl hj ?_
    refine sl_pk_f rfl rfl rfl hj rfl ?_
    refine sl_nil ?_
    refine sw_false rfl (rfl) ?_
    refine sw_exit ?_
    refine sw_seq ?_
    refine sw_seq ?_
    refine sl_region ?_
    refine sl_mv rfl rfl rfl ?_
    refine sl_nc rfl rfl rfl rfl ?_
    first
      | refine sl_fieldAddr_ptr rfl rfl rfl fo_80_1 ?_
      | refine sl_fieldAddr_rp rfl rfl rfl fo_80_1 ?_
      | refine sl_fieldAddr_ref rfl rfl rfl fo_80_1 ?_
    first
      | refine sl_load_rp1 rfl rfl rfl ag_4 rfl ?_
      | refine sl_load_blk1 rfl rfl rfl ag_4 (by repeat constructor) rfl ?_
    refine sl_nil ?_
    refine sw_true rfl (rfl) ?_
    refine sw_seq ?_
    refine sl_region ?_
    refine sl_as rfl rfl rfl ?_
    refine sl_nil ?_
    refine sw_ret ⟨rfl, _, _, ResD.weak (res_one rfl rfl) ((Weak.toV rfl) ), ?_, ⟨[], none, _, rfl, al_none o1, ⟨r, rfl⟩, rfl⟩⟩
    repeat constructor
  obtain ⟨rfl, hr⟩ := h1
  refine sl_as rfl rfl rfl ?_
  refine sl_nil ?_
  refine sw_seq ?_
  refine sw_seq ?_
  refine sl_region ?_
  refine sl_mv rfl rfl rfl ?_
  refine sl_mv rfl rfl rfl ?_
  refine sl_nc rfl rfl rfl rfl ?_
  first
    | refine sl_fieldAddr_ptr rfl rfl rfl fo_80_0 ?_
    | refine sl_fieldAddr_rp rfl rfl rfl fo_80_0 ?_
    | refine sl_fieldAddr_ref rfl rfl rfl fo_80_0 ?_
  first
    | refine sl_load_rp1 rfl rfl rfl ag_26 rfl ?_
    | refine sl_load_blk1 rfl rfl rfl ag_26 (by repeat constructor) rfl ?_
  first
    | refine sl_len rfl rfl rfl ⟨_, u_26⟩ ?_
    | refine sl_len_sl rfl rfl rfl ⟨_, u_26⟩ ?_
    | refine sl_len_w _ rfl rfl rfl ⟨_, u_26⟩ ?_
  refine sl_conv_int rfl rfl rfl is_3 u_37 ?_
  refine sl_set 16 (.val (.int .u64 (r.length : Int))) (len_u64 hr) ?_
  refine sl_bin rfl rfl rfl rfl rfl ?_
  refine sl_nil ?_
  refine sw_cond rfl (fun hg => ?_) (fun hg => ?_)
  · have hg : ¬ n ≤ r.length := by have := of_decide_eq_true hg; omega
    refine sl_region ?_
    refine sl_mv rfl rfl rfl ?_
    refine sl_nc rfl rfl rfl rfl ?_
    first
      | refine sl_fieldAddr_ptr rfl rfl rfl fo_80_1 ?_
      | refine sl_fieldAddr_rp rfl rfl rfl fo_80_1 ?_
      | refine sl_fieldAddr_ref rfl rfl rfl fo_80_1 ?_
    refine sl_stp rfl rfl rfl rfl sz_4 rfl rfl rfl (by repeat constructor) (Nat.le_of_ble_eq_true rfl) ?_
    refine sl_nil ?_
    refine sw_seq ?_
    refine sl_region ?_
    refine sl_as rfl rfl rfl ?_
    refine sl_nil ?_
    refine sw_seq ?_
    refine sw_seq ?_
    refine sl_region ?_
    refine sl_as rfl rfl rfl ?_
    refine sl_nil ?_
    refine sw_block ?_
    refine sw_loopw (fun nX sX δX σX => ∃ (j : Nat), (1) = nX ∧ sX = ⟨48, (.cons 0 (.ptr q 0) (.cons 3 (.val (u64V n)) (.cons 5 (.val (.int .u64 (j : Int))) .nil)))⟩ ∧ δX = [] ∧ σX = rd q r true :: σ) ?_ ?_
    · refine ⟨_, _, _, ?_, ?_, 0, rfl, rfl, rfl, rfl⟩
      · exact ⟨rfl, by repeat constructor⟩
      · repeat constructor
    rintro nX sX δX σX ⟨j, rfl, rfl, rfl, rfl⟩
    refine sw_seq ?_
    refine sw_seq ?_
    refine sl_region ?_
    refine sl_mv rfl rfl rfl ?_
    refine sl_mv rfl rfl rfl ?_
    refine sl_bin rfl rfl rfl rfl rfl ?_
    refine sl_mv rfl rfl rfl ?_
    refine sl_case_at 24 rfl (fun hj => ?_) (fun hj => ?_)
    · refine sl_guard_y rfl rfl rfl hj ?_
      refine sl_mv rfl rfl rfl ?_
      refine sl_guard_y rfl rfl rfl hj ?_
      refine sl_nc rfl rfl rfl rfl ?_
      refine sl_guard_y rfl rfl rfl hj ?_
      first
        | refine sl_fieldAddr_ptr rfl rfl rfl fo_80_1 ?_
        | refine sl_fieldAddr_rp rfl rfl rfl fo_80_1 ?_
        | refine sl_fieldAddr_ref rfl rfl rfl fo_80_1 ?_
      refine sl_guard_y rfl rfl rfl hj ?_
      first
        | refine sl_load_rp1 rfl rfl rfl ag_4 rfl ?_
        | refine sl_load_blk1 rfl rfl rfl ag_4 (by repeat constructor) rfl ?_
      refine sl_guard_y rfl rfl rfl hj ?_
      refine sl_not rfl rfl rfl ?_
      refine sl_pk_t rfl rfl rfl hj rfl ?_
      refine sl_nil ?_
      refine sw_false rfl (rfl) ?_
      refine sw_exit ?_
      refine sw_seq ?_
      refine sw_seq ?_
      refine sl_region ?_
      refine sl_mv rfl rfl rfl ?_
      refine sl_nc rfl rfl rfl rfl ?_
      first
        | refine sl_fieldAddr_ptr rfl rfl rfl fo_80_1 ?_
        | refine sl_fieldAddr_rp rfl rfl rfl fo_80_1 ?_
        | refine sl_fieldAddr_ref rfl rfl rfl fo_80_1 ?_
      first
        | refine sl_load_rp1 rfl rfl rfl ag_4 rfl ?_
        | refine sl_load_blk1 rfl rfl rfl ag_4 (by repeat constructor) rfl ?_
      refine sl_nil ?_
      refine sw_true rfl (rfl) ?_
      refine sw_seq ?_
      refine sl_region ?_
      refine sl_as rfl rfl rfl ?_
      refine sl_nil ?_
      refine sw_ret ⟨rfl, _, _, ResD.weak (res_one rfl rfl) ((Weak.toV rfl) ), ?_, ⟨[], none, _, rfl, al_great o1 hg, ⟨r, rfl⟩, rfl⟩⟩
      repeat constructor
    refine sl_guard_n rfl rfl rfl hj ?_
    refine sl_guard_n rfl rfl rfl hj ?_
    refine sl_guard_n rfl rfl rfl hj ?_
    refine sl_guard_n rfl rfl rfl hj ?_
    refine sl_guard_n rfl rfl rfl hj ?_
    refine sl_pk_f rfl rfl rfl hj rfl ?_
    refine sl_nil ?_
    refine sw_false rfl (rfl) ?_
    refine sw_exit ?_
    refine sw_seq ?_
    refine sw_seq ?_
    refine sl_region ?_
    refine sl_mv rfl rfl rfl ?_
    refine sl_nc rfl rfl rfl rfl ?_
    first
      | refine sl_fieldAddr_ptr rfl rfl rfl fo_80_1 ?_
      | refine sl_fieldAddr_rp rfl rfl rfl fo_80_1 ?_
      | refine sl_fieldAddr_ref rfl rfl rfl fo_80_1 ?_
    first
      | refine sl_load_rp1 rfl rfl rfl ag_4 rfl ?_
      | refine sl_load_blk1 rfl rfl rfl ag_4 (by repeat constructor) rfl ?_
    refine sl_nil ?_
    refine sw_true rfl (rfl) ?_
    refine sw_seq ?_
    refine sl_region ?_
    refine sl_as rfl rfl rfl ?_
    refine sl_nil ?_
    refine sw_ret ⟨rfl, _, _, ResD.weak (res_one rfl rfl) ((Weak.toV rfl) ), ?_, ⟨[], none, _, rfl, al_great o1 hg, ⟨r, rfl⟩, rfl⟩⟩
    repeat constructor
  have hg : n ≤ r.length := by have := of_decide_eq_false hg; omega
  refine sw_skip ?_
  refine sw_seq ?_
  refine sl_region ?_
  refine sl_as rfl rfl rfl ?_
  refine sl_nil ?_
  refine sw_seq ?_
  refine sw_seq ?_
  refine sw_own (t := 4) (sz := 2) rfl (fun e0 => ?_)
  refine sl_region ?_
  refine sl_as rfl rfl rfl ?_
  refine sl_nil ?_
  refine sw_block ?_
  refine sw_loopw (fun nX sX δX σX => ∃ (j : Nat) (v : Value) (al : List Alm) (st2 : Option (List UInt8)) (c2 : Chunk), (n - j) = nX ∧ sX = ⟨48, (.cons 0 (.ptr q 0) (.cons 3 (.val (u64V n)) (.cons 4 (.own v (al.map almV)) (.cons 5 (.val (.int .u64 (j : Int))) .nil))))⟩ ∧ δX = [] ∧ σX = c2 :: .spare v 2 :: σ ∧ (j ≤ n) ∧ (Out (decMany decA j) (some r) al st2) ∧ (Rdr q st2 c2) ∧ (al.length ≤ j)) ?_ ?_
  · refine ⟨_, _, _, ?_, ?_, 0, e0, [], some r, rd q r false, rfl, rfl, rfl, rfl, Nat.zero_le _, many_zero r, ⟨rfl, hr⟩, Nat.le_refl _⟩
    · exact ⟨rfl, by repeat constructor⟩
    · repeat constructor
  rintro nX sX δX σX ⟨j, v, al, st2, c2, rfl, rfl, rfl, rfl, hj0, hout, hrd, hal⟩
  rcases st2 with _ | r2
  · obtain ⟨r2, rfl⟩ := hrd
    refine sw_seq ?_
    refine sw_seq ?_
    refine sl_region ?_
    refine sl_mv rfl rfl rfl ?_
    refine sl_mv rfl rfl rfl ?_
    refine sl_bin rfl rfl rfl rfl rfl ?_
    refine sl_mv rfl rfl rfl ?_
    refine sl_case_at 24 rfl (fun hj => ?_) (fun hj => ?_)
    · refine sl_guard_y rfl rfl rfl hj ?_
      refine sl_mv rfl rfl rfl ?_
      refine sl_guard_y rfl rfl rfl hj ?_
      refine sl_nc rfl rfl rfl rfl ?_
      refine sl_guard_y rfl rfl rfl hj ?_
      first
        | refine sl_fieldAddr_ptr rfl rfl rfl fo_80_1 ?_
        | refine sl_fieldAddr_rp rfl rfl rfl fo_80_1 ?_
        | refine sl_fieldAddr_ref rfl rfl rfl fo_80_1 ?_
      refine sl_guard_y rfl rfl rfl hj ?_
      first
        | refine sl_load_rp1 rfl rfl rfl ag_4 rfl ?_
        | refine sl_load_blk1 rfl rfl rfl ag_4 (by repeat constructor) rfl ?_
      refine sl_guard_y rfl rfl rfl hj ?_
      refine sl_not rfl rfl rfl ?_
      refine sl_pk_t rfl rfl rfl hj rfl ?_
      refine sl_nil ?_
      refine sw_false rfl (rfl) ?_
      refine sw_exit ?_
      refine sw_seq ?_
      refine sw_seq ?_
      refine sl_region ?_
      refine sl_mv rfl rfl rfl ?_
      refine sl_nc rfl rfl rfl rfl ?_
      first
        | refine sl_fieldAddr_ptr rfl rfl rfl fo_80_1 ?_
        | refine sl_fieldAddr_rp rfl rfl rfl fo_80_1 ?_
        | refine sl_fieldAddr_ref rfl rfl rfl fo_80_1 ?_
      first
        | refine sl_load_rp1 rfl rfl rfl ag_4 rfl ?_
        | refine sl_load_blk1 rfl rfl rfl ag_4 (by repeat constructor) rfl ?_
      refine sl_nil ?_
      refine sw_true rfl (rfl) ?_
      refine sw_seq ?_
      refine sl_region ?_
      refine sl_as rfl rfl rfl ?_
      refine sl_nil ?_
      refine sw_ret ⟨rfl, _, _, ResD.weak (res_one rfl rfl) ((Weak.toV rfl) ), ?_, ⟨[], none, _, rfl, al_some o1 hg (many_fail hout n hj0), ⟨r2, rfl⟩, rfl⟩⟩
      repeat constructor
    refine sl_guard_n rfl rfl rfl hj ?_
    refine sl_guard_n rfl rfl rfl hj ?_
    refine sl_guard_n rfl rfl rfl hj ?_
    refine sl_guard_n rfl rfl rfl hj ?_
    refine sl_guard_n rfl rfl rfl hj ?_
    refine sl_pk_f rfl rfl rfl hj rfl ?_
    refine sl_nil ?_
    refine sw_false rfl (rfl) ?_
    refine sw_exit ?_
    refine sw_seq ?_
    refine sw_seq ?_
    refine sl_region ?_
    refine sl_mv rfl rfl rfl ?_
    refine sl_nc rfl rfl rfl rfl ?_
    first
      | refine sl_fieldAddr_ptr rfl rfl rfl fo_80_1 ?_
      | refine sl_fieldAddr_rp rfl rfl rfl fo_80_1 ?_
      | refine sl_fieldAddr_ref rfl rfl rfl fo_80_1 ?_
    first
      | refine sl_load_rp1 rfl rfl rfl ag_4 rfl ?_
      | refine sl_load_blk1 rfl rfl rfl ag_4 (by repeat constructor) rfl ?_
    refine sl_nil ?_
    refine sw_true rfl (rfl) ?_
    refine sw_seq ?_
    refine sl_region ?_
    refine sl_as rfl rfl rfl ?_
    refine sl_nil ?_
    refine sw_ret ⟨rfl, _, _, ResD.weak (res_one rfl rfl) ((Weak.toV rfl) ), ?_, ⟨[], none, _, rfl, al_some o1 hg (many_fail hout n hj0), ⟨r2, rfl⟩, rfl⟩⟩
    repeat constructor
  obtain ⟨rfl, hr2⟩ := hrd
  refine sw_seq ?_
  refine sw_seq ?_
  refine sl_region ?_
  refine sl_mv rfl rfl rfl ?_
  refine sl_mv rfl rfl rfl ?_
  refine sl_bin rfl rfl rfl rfl rfl ?_
  refine sl_mv rfl rfl rfl ?_
  refine sl_case_at 24 rfl (fun hj => ?_) (fun hj => ?_)
  · have hj1 : j < n := by have := of_decide_eq_true hj; omega
    refine sl_guard_y rfl rfl rfl hj ?_
    refine sl_mv rfl rfl rfl ?_
    refine sl_guard_y rfl rfl rfl hj ?_
    refine sl_nc rfl rfl rfl rfl ?_
    refine sl_guard_y rfl rfl rfl hj ?_
    first
      | refine sl_fieldAddr_ptr rfl rfl rfl fo_80_1 ?_
      | refine sl_fieldAddr_rp rfl rfl rfl fo_80_1 ?_
      | refine sl_fieldAddr_ref rfl rfl rfl fo_80_1 ?_
    refine sl_guard_y rfl rfl rfl hj ?_
    first
      | refine sl_load_rp1 rfl rfl rfl ag_4 rfl ?_
      | refine sl_load_blk1 rfl rfl rfl ag_4 (by repeat constructor) rfl ?_
    refine sl_guard_y rfl rfl rfl hj ?_
    refine sl_not rfl rfl rfl ?_
    refine sl_pk_t rfl rfl rfl hj rfl ?_
    refine sl_nil ?_
    refine sw_true rfl (rfl) ?_
    have o2 := out_rdOf (dec := decS) (z := 0) (some r2)
    have o3 := out_rdOf (dec := decS) (z := 0) (rdOf decS 0 (some r2)).2
    refine sw_skip ?_
    refine sw_seq ?_
    refine sw_block ?_
    refine sw_seq ?_
    refine sl_region ?_
    refine sl_mv rfl rfl rfl ?_
    refine sl_callf rfl rfl cal_90 (ysmall_ok q (some r2) (rd q r2 false) (.spare v 2 :: σ) ⟨rfl, hr2⟩) ?_ ?_ ?_ (fun _ _ h => h.elim)
    · repeat constructor
    · repeat constructor
    rintro _ _ ⟨rfl, c3, h3, rfl⟩
    refine sl_as rfl rfl rfl ?_
    refine sl_nil ?_
    refine sw_seq ?_
    refine sl_region ?_
    refine sl_mv rfl rfl rfl ?_
    refine sl_callf rfl rfl cal_90 (ysmall_ok q (rdOf decS 0 (some r2)).2 c3 (.spare v 2 :: σ) h3) ?_ ?_ ?_ (fun _ _ h => h.elim)
    · repeat constructor
    · repeat constructor
    rintro _ _ ⟨rfl, c4, h4, rfl⟩
    refine sl_as rfl rfl rfl ?_
    refine sl_nil ?_
    refine sl_region ?_
    refine sl_mv rfl rfl rfl ?_
    refine sl_mv rfl rfl rfl ?_
    refine sl_mv rfl rfl rfl ?_
    refine sl_bd rfl rfl (.cons rfl (.cons rfl .nil)) bi_86 zd_86 rfl ?_
    refine sl_bsn ([almV ⟨(rdOf decS 0 (some r2)).1, (rdOf decS 0 (rdOf decS 0 (some r2)).2).1⟩]) rfl rfl (.cons rfl .nil) u_67 sz_86 zs_86 (by decide) rfl rfl rfl (SzI.get (by repeat constructor)) ?_
    refine sl_appp rfl rfl rfl rfl u_67 ⟨_, u_67, rfl⟩ el_86 (by repeat constructor) (by repeat constructor) (by simp only [List.length_map, List.length_cons, List.length_nil]; omega) ((by rw [List.map_append]; rfl : _ = (al ++ [Alm.mk (rdOf decS 0 (some r2)).1 (rdOf decS 0 (rdOf decS 0 (some r2)).2).1]).map almV)) (by repeat constructor) (fun v42 => ?_)
    refine sl_as rfl rfl rfl ?_
    refine sl_nil ?_
    refine sl_region ?_
    refine sl_mv rfl rfl rfl ?_
    refine sl_bin rfl rfl rfl rfl rfl ?_
    refine sl_set 32 (.val (.int .u64 ((j + 1 : Nat) : Int))) (congrArg (fun z => D.val (.int .u64 z)) (wrapped_u64 (j + 1) (by omega))) ?_
    refine sl_as rfl rfl rfl ?_
    refine sl_nil ?_
    refine ⟨_, by omega, _, _, ?_, ?_, j + 1, v42, _, (rdOf decS 0 (rdOf decS 0 (some r2)).2).2, c4, rfl, rfl, rfl, rfl, by omega, many_succ hout (out_alm o2 o3), h4, by rw [List.length_append]; simp; omega⟩
    · exact ⟨rfl, by repeat constructor⟩
    · repeat constructor
  have hj1 : j = n := by have := of_decide_eq_false hj; omega
  subst hj1
  refine sl_guard_n rfl rfl rfl hj ?_
  refine sl_guard_n rfl rfl rfl hj ?_
  refine sl_guard_n rfl rfl rfl hj ?_
  refine sl_guard_n rfl rfl rfl hj ?_
  refine sl_guard_n rfl rfl rfl hj ?_
  refine sl_pk_f rfl rfl rfl hj rfl ?_
  refine sl_nil ?_
  refine sw_false rfl (rfl) ?_
  refine sw_exit ?_
  refine sw_seq ?_
  refine sw_seq ?_
  refine sl_region ?_
  refine sl_mv rfl rfl rfl ?_
  refine sl_nc rfl rfl rfl rfl ?_
  first
    | refine sl_fieldAddr_ptr rfl rfl rfl fo_80_1 ?_
    | refine sl_fieldAddr_rp rfl rfl rfl fo_80_1 ?_
    | refine sl_fieldAddr_ref rfl rfl rfl fo_80_1 ?_
  first
    | refine sl_load_rp1 rfl rfl rfl ag_4 rfl ?_
    | refine sl_load_blk1 rfl rfl rfl ag_4 (by repeat constructor) rfl ?_
  refine sl_nil ?_
  refine sw_false rfl (rfl) ?_
  refine sw_skip ?_
  refine sw_seq ?_
  refine sl_region ?_
  refine sl_mv rfl rfl rfl ?_
  refine sl_as rfl rfl rfl ?_
  refine sl_nil ?_
  refine sw_ret ⟨rfl, _, _, ResD.weak (res_one rfl rfl) ((Weak.toV rfl) ), ?_, ⟨al, some r2, _, rfl, al_some o1 hg hout, ⟨rfl, hr2⟩, rfl⟩⟩
  repeat constructor

end Go.Proofs.Ytioechdfghglhaa

/- Walks: printed by a program of this session out of its script CodeO. -/
namespace Go.Proofs.Ytioechdfghglhaa
set_option linter.unusedVariables false
set_option linter.unusedSimpArgs false
set_option maxRecDepth 4000
set_option maxHeartbeats 4000000
open Go Go.RowKit SL


/-- The document's reader: a summary. -/
theorem ysumm_ok (q : Nat) (st : Option (List UInt8)) (c : Chunk) (σ : List Chunk) (h : Rdr q st c) :
    FSpec Try.prog 46 [.ptr q 0] (c :: σ) (fun d σ' => ∃ s st' c', d = .val (smyV s) ∧ Out decSumm st s st' ∧ (st' = none → s = noSumm) ∧ Rdr q st' c' ∧ σ' = c' :: σ) := by
  refine spec_of_sw Try.func46 rfl ?_
  refine sw_seq ?_
  refine sl_region ?_
  refine sl_alloc rfl rfl zd_72 (fun b2 => ?_)
  refine sl_nil ?_
  refine sw_seq ?_
  refine sl_region ?_
  refine sl_alloc rfl rfl zd_72 (fun b3 => ?_)
  refine sl_nil ?_
  refine sw_seq ?_
  refine sl_region ?_
  refine sl_mv rfl rfl rfl ?_
  refine sl_callf rfl rfl cal_86 (yalarms_ok q st c (.blk b2 [.fix [], .val (.bool false), .val (.bool false), .val (.int .i64 0), .val (.int .i64 0), .fix []] :: .blk b3 [.fix [], .val (.bool false), .val (.bool false), .val (.int .i64 0), .val (.int .i64 0), .fix []] :: σ) h) ?_ ?_ ?_ (fun _ _ h => h.elim)
  · repeat constructor
  · repeat constructor
  rintro _ _ ⟨al, st1, c1, rfl, o1, h1, rfl⟩
  have o2 := out_rdOf (dec := decB) (z := false) st1
  first
    | refine sl_fieldAddr_ptr rfl rfl rfl fo_72_0 ?_
    | refine sl_fieldAddr_rp rfl rfl rfl fo_72_0 ?_
    | refine sl_fieldAddr_ref rfl rfl rfl fo_72_0 ?_
  refine sl_stp rfl rfl rfl rfl sz_67 rfl rfl rfl (by repeat constructor) (Nat.le_of_ble_eq_true rfl) ?_
  refine sl_nil ?_
  refine sw_seq ?_
  refine sl_region ?_
  refine sl_mv rfl rfl rfl ?_
  refine sl_callf rfl rfl cal_43 (ybool_ok q st1 c1 (.blk b2 [.fix [], .val (.bool false), .val (.bool false), .val (.int .i64 0), .val (.int .i64 0), .fix []] :: .blk b3 [.val (.list (al.map almV)), .val (.bool false), .val (.bool false), .val (.int .i64 0), .val (.int .i64 0), .fix []] :: σ) h1) ?_ ?_ ?_ (fun _ _ h => h.elim)
  · repeat constructor
  · repeat constructor
  rintro _ _ ⟨rfl, c2, h2, rfl⟩
  obtain ⟨e, he⟩ : ∃ b, b = (rdOf decB false st1).1 := ⟨_, rfl⟩
  obtain ⟨st2, hst2⟩ : ∃ b, b = (rdOf decB false st1).2 := ⟨_, rfl⟩
  rw [← he, ← hst2] at o2
  rw [← hst2] at h2
  rw [← he]
  first
    | refine sl_fieldAddr_ptr rfl rfl rfl fo_72_1 ?_
    | refine sl_fieldAddr_rp rfl rfl rfl fo_72_1 ?_
    | refine sl_fieldAddr_ref rfl rfl rfl fo_72_1 ?_
  refine sl_stp rfl rfl rfl rfl sz_4 rfl rfl rfl (by repeat constructor) (Nat.le_of_ble_eq_true rfl) ?_
  refine sl_nil ?_
  refine sw_seq ?_
  refine sl_region ?_
  refine sl_mv rfl rfl rfl ?_
  refine sl_callf rfl rfl cal_87 (yival_ok q st2 c2 (.blk b2 [.fix [], .val (.bool false), .val (.bool false), .val (.int .i64 0), .val (.int .i64 0), .fix []] :: .blk b3 [.val (.list (al.map almV)), .val (boolV e), .val (.bool false), .val (.int .i64 0), .val (.int .i64 0), .fix []] :: σ) h2) ?_ ?_ ?_ (fun _ _ h => h.elim)
  · repeat constructor
  · repeat constructor
  rintro _ _ ⟨i, st3, c3, rfl, o3, h3, rfl⟩
  have o4 := out_rdOf (dec := decN 0) (z := 0) st3
  have hlt := rdOf_lt (st := st3)
  first
    | refine sl_fieldAddr_ptr rfl rfl rfl fo_72_2 ?_
    | refine sl_fieldAddr_rp rfl rfl rfl fo_72_2 ?_
    | refine sl_fieldAddr_ref rfl rfl rfl fo_72_2 ?_
  refine sl_stp rfl rfl rfl rfl sz_69 rfl rfl rfl (by repeat constructor) (Nat.le_of_ble_eq_true rfl) ?_
  refine sl_nil ?_
  refine sw_seq ?_
  refine sl_region ?_
  refine sl_mv rfl rfl rfl ?_
  refine sl_callf rfl rfl cal_40 (ynum_ok q st3 c3 (.blk b2 [.fix [], .val (.bool false), .val (.bool false), .val (.int .i64 0), .val (.int .i64 0), .fix []] :: .blk b3 ([.val (.list (al.map almV)), .val (boolV e), .val (.bool i.some), .val (.int .i64 i.lo), .val (.int .i64 i.hi), .fix []]) :: σ) h3) ?_ ?_ ?_ (fun _ _ h => h.elim)
  · repeat constructor
  · repeat constructor
  rintro _ _ ⟨rfl, c4, h4, rfl⟩
  obtain ⟨n, hn⟩ : ∃ b, b = (rdOf (decN 0) 0 st3).1 := ⟨_, rfl⟩
  obtain ⟨st4, hst4⟩ : ∃ b, b = (rdOf (decN 0) 0 st3).2 := ⟨_, rfl⟩
  rw [← hn, ← hst4] at o4
  rw [← hn] at hlt
  rw [← hst4] at h4
  rw [← hn]
  rcases st4 with _ | r
  · obtain ⟨r, rfl⟩ := h4
    refine sl_as rfl rfl rfl ?_
    refine sl_nil ?_
    refine sw_seq ?_
    refine sw_seq ?_
    refine sl_region ?_
    refine sl_mv rfl rfl rfl ?_
    refine sl_mv rfl rfl rfl ?_
    refine sl_nc rfl rfl rfl rfl ?_
    first
      | refine sl_fieldAddr_ptr rfl rfl rfl fo_80_0 ?_
      | refine sl_fieldAddr_rp rfl rfl rfl fo_80_0 ?_
      | refine sl_fieldAddr_ref rfl rfl rfl fo_80_0 ?_
    first
      | refine sl_load_rp1 rfl rfl rfl ag_26 rfl ?_
      | refine sl_load_blk1 rfl rfl rfl ag_26 (by repeat constructor) rfl ?_
    first
      | refine sl_len rfl rfl rfl ⟨_, u_26⟩ ?_
      | refine sl_len_sl rfl rfl rfl ⟨_, u_26⟩ ?_
      | refine sl_len_w _ rfl rfl rfl ⟨_, u_26⟩ ?_
    refine sl_conv_int rfl rfl rfl is_3 u_37 ?_
    refine sl_bin rfl rfl rfl rfl rfl ?_
    refine sl_nil ?_
    refine sw_cond rfl (fun hg => ?_) (fun hg => ?_)
    · refine sl_region ?_
      refine sl_mv rfl rfl rfl ?_
      refine sl_nc rfl rfl rfl rfl ?_
      first
        | refine sl_fieldAddr_ptr rfl rfl rfl fo_80_1 ?_
        | refine sl_fieldAddr_rp rfl rfl rfl fo_80_1 ?_
        | refine sl_fieldAddr_ref rfl rfl rfl fo_80_1 ?_
      refine sl_stp rfl rfl rfl rfl sz_4 rfl rfl rfl (by repeat constructor) (Nat.le_of_ble_eq_true rfl) ?_
      refine sl_nil ?_
      refine sw_seq ?_
      refine sw_seq ?_
      refine sl_region ?_
      refine sl_as rfl rfl rfl ?_
      refine sl_nil ?_
      refine sw_block ?_
      refine sw_loopw (fun nX sX δX σX => ∃ (j : Nat), (1) = nX ∧ sX = ⟨58, (.cons 0 (.ptr q 0) (.cons 2 (.ptr b2 0) (.cons 3 (.ptr b3 0) (.cons 4 (.val (u64V n)) (.cons 5 (.val (.int .u64 (j : Int))) .nil)))))⟩ ∧ δX = [] ∧ σX = rd q r true :: .blk b2 [.fix [], .val (.bool false), .val (.bool false), .val (.int .i64 0), .val (.int .i64 0), .fix []] :: .blk b3 ([.val (.list (al.map almV)), .val (boolV e), .val (.bool i.some), .val (.int .i64 i.lo), .val (.int .i64 i.hi), .fix []]) :: σ) ?_ ?_
      · refine ⟨_, _, _, ?_, ?_, 0, rfl, rfl, rfl, rfl⟩
        · exact ⟨rfl, by repeat constructor⟩
        · repeat constructor
      rintro nX sX δX σX ⟨j, rfl, rfl, rfl, rfl⟩
      refine sw_seq ?_
      refine sw_seq ?_
      refine sl_region ?_
      refine sl_mv rfl rfl rfl ?_
      refine sl_mv rfl rfl rfl ?_
      refine sl_bin rfl rfl rfl rfl rfl ?_
      refine sl_mv rfl rfl rfl ?_
      refine sl_case_at 32 rfl (fun hj => ?_) (fun hj => ?_)
      · refine sl_guard_y rfl rfl rfl hj ?_
        refine sl_mv rfl rfl rfl ?_
        refine sl_guard_y rfl rfl rfl hj ?_
        refine sl_nc rfl rfl rfl rfl ?_
        refine sl_guard_y rfl rfl rfl hj ?_
        first
          | refine sl_fieldAddr_ptr rfl rfl rfl fo_80_1 ?_
          | refine sl_fieldAddr_rp rfl rfl rfl fo_80_1 ?_
          | refine sl_fieldAddr_ref rfl rfl rfl fo_80_1 ?_
        refine sl_guard_y rfl rfl rfl hj ?_
        first
          | refine sl_load_rp1 rfl rfl rfl ag_4 rfl ?_
          | refine sl_load_blk1 rfl rfl rfl ag_4 (by repeat constructor) rfl ?_
        refine sl_guard_y rfl rfl rfl hj ?_
        refine sl_not rfl rfl rfl ?_
        refine sl_pk_t rfl rfl rfl hj rfl ?_
        refine sl_nil ?_
        refine sw_false rfl (rfl) ?_
        refine sw_exit ?_
        refine sw_seq ?_
        refine sw_seq ?_
        refine sl_region ?_
        refine sl_mv rfl rfl rfl ?_
        refine sl_nc rfl rfl rfl rfl ?_
        first
          | refine sl_fieldAddr_ptr rfl rfl rfl fo_80_1 ?_
          | refine sl_fieldAddr_rp rfl rfl rfl fo_80_1 ?_
          | refine sl_fieldAddr_ref rfl rfl rfl fo_80_1 ?_
        first
          | refine sl_load_rp1 rfl rfl rfl ag_4 rfl ?_
          | refine sl_load_blk1 rfl rfl rfl ag_4 (by repeat constructor) rfl ?_
        refine sl_nil ?_
        refine sw_true rfl (rfl) ?_
        refine sw_seq ?_
        refine sl_region ?_
        refine sl_bd rfl rfl .nil bi_72 zd_72 rfl ?_
        refine sl_stp rfl rfl rfl rfl sz_72 rfl rfl rfl (by repeat constructor) (Nat.le_of_ble_eq_true rfl) ?_
        refine sl_nil ?_
        refine sw_ret ⟨rfl, _, _, ResD.weak (res_celln rfl rfl ag_72 sz_72 (by repeat constructor) (Nat.le_of_ble_eq_true rfl)) ((Weak.toV rfl) ), ?_, ⟨noSumm, none, _, rfl, out_none (out_summ o1 o2 o3 (ml_none o4)), fun _ => rfl, ⟨r, rfl⟩, rfl⟩⟩
        repeat constructor
      refine sl_guard_n rfl rfl rfl hj ?_
      refine sl_guard_n rfl rfl rfl hj ?_
      refine sl_guard_n rfl rfl rfl hj ?_
      refine sl_guard_n rfl rfl rfl hj ?_
      refine sl_guard_n rfl rfl rfl hj ?_
      refine sl_pk_f rfl rfl rfl hj rfl ?_
      refine sl_nil ?_
      refine sw_false rfl (rfl) ?_
      refine sw_exit ?_
      refine sw_seq ?_
      refine sw_seq ?_
      refine sl_region ?_
      refine sl_mv rfl rfl rfl ?_
      refine sl_nc rfl rfl rfl rfl ?_
      first
        | refine sl_fieldAddr_ptr rfl rfl rfl fo_80_1 ?_
        | refine sl_fieldAddr_rp rfl rfl rfl fo_80_1 ?_
        | refine sl_fieldAddr_ref rfl rfl rfl fo_80_1 ?_
      first
        | refine sl_load_rp1 rfl rfl rfl ag_4 rfl ?_
        | refine sl_load_blk1 rfl rfl rfl ag_4 (by repeat constructor) rfl ?_
      refine sl_nil ?_
      refine sw_true rfl (rfl) ?_
      refine sw_seq ?_
      refine sl_region ?_
      refine sl_bd rfl rfl .nil bi_72 zd_72 rfl ?_
      refine sl_stp rfl rfl rfl rfl sz_72 rfl rfl rfl (by repeat constructor) (Nat.le_of_ble_eq_true rfl) ?_
      refine sl_nil ?_
      refine sw_ret ⟨rfl, _, _, ResD.weak (res_celln rfl rfl ag_72 sz_72 (by repeat constructor) (Nat.le_of_ble_eq_true rfl)) ((Weak.toV rfl) ), ?_, ⟨noSumm, none, _, rfl, out_none (out_summ o1 o2 o3 (ml_none o4)), fun _ => rfl, ⟨r, rfl⟩, rfl⟩⟩
      repeat constructor
    refine sw_skip ?_
    refine sw_seq ?_
    refine sw_seq ?_
    refine sl_region ?_
    refine sl_as rfl rfl rfl ?_
    refine sl_nil ?_
    refine sw_block ?_
    refine sw_loopw (fun nX sX δX σX => ∃ (j : Nat), (1) = nX ∧ sX = ⟨58, (.cons 0 (.ptr q 0) (.cons 2 (.ptr b2 0) (.cons 3 (.ptr b3 0) (.cons 4 (.val (u64V n)) (.cons 5 (.val (.int .u64 (j : Int))) .nil)))))⟩ ∧ δX = [] ∧ σX = rd q r true :: .blk b2 [.fix [], .val (.bool false), .val (.bool false), .val (.int .i64 0), .val (.int .i64 0), .fix []] :: .blk b3 ([.val (.list (al.map almV)), .val (boolV e), .val (.bool i.some), .val (.int .i64 i.lo), .val (.int .i64 i.hi), .fix []]) :: σ) ?_ ?_
    · refine ⟨_, _, _, ?_, ?_, 0, rfl, rfl, rfl, rfl⟩
      · exact ⟨rfl, by repeat constructor⟩
      · repeat constructor
    rintro nX sX δX σX ⟨j, rfl, rfl, rfl, rfl⟩
    refine sw_seq ?_
    refine sw_seq ?_
    refine sl_region ?_
    refine sl_mv rfl rfl rfl ?_
    refine sl_mv rfl rfl rfl ?_
    refine sl_bin rfl rfl rfl rfl rfl ?_
    refine sl_mv rfl rfl rfl ?_
    refine sl_case_at 32 rfl (fun hj => ?_) (fun hj => ?_)
    · refine sl_guard_y rfl rfl rfl hj ?_
      refine sl_mv rfl rfl rfl ?_
      refine sl_guard_y rfl rfl rfl hj ?_
      refine sl_nc rfl rfl rfl rfl ?_
      refine sl_guard_y rfl rfl rfl hj ?_
      first
        | refine sl_fieldAddr_ptr rfl rfl rfl fo_80_1 ?_
        | refine sl_fieldAddr_rp rfl rfl rfl fo_80_1 ?_
        | refine sl_fieldAddr_ref rfl rfl rfl fo_80_1 ?_
      refine sl_guard_y rfl rfl rfl hj ?_
      first
        | refine sl_load_rp1 rfl rfl rfl ag_4 rfl ?_
        | refine sl_load_blk1 rfl rfl rfl ag_4 (by repeat constructor) rfl ?_
      refine sl_guard_y rfl rfl rfl hj ?_
      refine sl_not rfl rfl rfl ?_
      refine sl_pk_t rfl rfl rfl hj rfl ?_
      refine sl_nil ?_
      refine sw_false rfl (rfl) ?_
      refine sw_exit ?_
      refine sw_seq ?_
      refine sw_seq ?_
      refine sl_region ?_
      refine sl_mv rfl rfl rfl ?_
      refine sl_nc rfl rfl rfl rfl ?_
      first
        | refine sl_fieldAddr_ptr rfl rfl rfl fo_80_1 ?_
        | refine sl_fieldAddr_rp rfl rfl rfl fo_80_1 ?_
        | refine sl_fieldAddr_ref rfl rfl rfl fo_80_1 ?_
      first
        | refine sl_load_rp1 rfl rfl rfl ag_4 rfl ?_
        | refine sl_load_blk1 rfl rfl rfl ag_4 (by repeat constructor) rfl ?_
      refine sl_nil ?_
      refine sw_true rfl (rfl) ?_
      refine sw_seq ?_
      refine sl_region ?_
      refine sl_bd rfl rfl .nil bi_72 zd_72 rfl ?_
      refine sl_stp rfl rfl rfl rfl sz_72 rfl rfl rfl (by repeat constructor) (Nat.le_of_ble_eq_true rfl) ?_
      refine sl_nil ?_
      refine sw_ret ⟨rfl, _, _, ResD.weak (res_celln rfl rfl ag_72 sz_72 (by repeat constructor) (Nat.le_of_ble_eq_true rfl)) ((Weak.toV rfl) ), ?_, ⟨noSumm, none, _, rfl, out_none (out_summ o1 o2 o3 (ml_none o4)), fun _ => rfl, ⟨r, rfl⟩, rfl⟩⟩
      repeat constructor
    refine sl_guard_n rfl rfl rfl hj ?_
    refine sl_guard_n rfl rfl rfl hj ?_
    refine sl_guard_n rfl rfl rfl hj ?_
    refine sl_guard_n rfl rfl rfl hj ?_
    refine sl_guard_n rfl rfl rfl hj ?_
    refine sl_pk_f rfl rfl rfl hj rfl ?_
    refine sl_nil ?_
    refine sw_false rfl (rfl) ?_
    refine sw_exit ?_
    refine sw_seq ?_
    refine sw_seq ?_
    refine sl_region ?_
    refine sl_mv rfl rfl rfl ?_
    refine sl_nc rfl rfl rfl rfl ?_
    first
      | refine sl_fieldAddr_ptr rfl rfl rfl fo_80_1 ?_
      | refine sl_fieldAddr_rp rfl rfl rfl fo_80_1 ?_
      | refine sl_fieldAddr_ref rfl rfl rfl fo_80_1 ?_
    first
      | refine sl_load_rp1 rfl rfl rfl ag_4 rfl ?_
      | refine sl_load_blk1 rfl rfl rfl ag_4 (by repeat constructor) rfl ?_
    refine sl_nil ?_
    refine sw_true rfl (rfl) ?_
    refine sw_seq ?_
    refine sl_region ?_
    refine sl_bd rfl rfl .nil bi_72 zd_72 rfl ?_
    refine sl_stp rfl rfl rfl rfl sz_72 rfl rfl rfl (by repeat constructor) (Nat.le_of_ble_eq_true rfl) ?_
    refine sl_nil ?_
    refine sw_ret ⟨rfl, _, _, ResD.weak (res_celln rfl rfl ag_72 sz_72 (by repeat constructor) (Nat.le_of_ble_eq_true rfl)) ((Weak.toV rfl) ), ?_, ⟨noSumm, none, _, rfl, out_none (out_summ o1 o2 o3 (ml_none o4)), fun _ => rfl, ⟨r, rfl⟩, rfl⟩⟩
    repeat constructor
  obtain ⟨rfl, hr⟩ := h4
  refine sl_as rfl rfl rfl ?_
  refine sl_nil ?_
  refine sw_seq ?_
  refine sw_seq ?_
  refine sl_region ?_
  refine sl_mv rfl rfl rfl ?_
  refine sl_mv rfl rfl rfl ?_
  refine sl_nc rfl rfl rfl rfl ?_
  first
    | refine sl_fieldAddr_ptr rfl rfl rfl fo_80_0 ?_
    | refine sl_fieldAddr_rp rfl rfl rfl fo_80_0 ?_
    | refine sl_fieldAddr_ref rfl rfl rfl fo_80_0 ?_
  first
    | refine sl_load_rp1 rfl rfl rfl ag_26 rfl ?_
    | refine sl_load_blk1 rfl rfl rfl ag_26 (by repeat constructor) rfl ?_
  first
    | refine sl_len rfl rfl rfl ⟨_, u_26⟩ ?_
    | refine sl_len_sl rfl rfl rfl ⟨_, u_26⟩ ?_
    | refine sl_len_w _ rfl rfl rfl ⟨_, u_26⟩ ?_
  refine sl_conv_int rfl rfl rfl is_3 u_37 ?_
  refine sl_set 24 (.val (.int .u64 (r.length : Int))) (len_u64 hr) ?_
  refine sl_bin rfl rfl rfl rfl rfl ?_
  refine sl_nil ?_
  refine sw_cond rfl (fun hg => ?_) (fun hg => ?_)
  · have hg : ¬ n ≤ r.length := by have := of_decide_eq_true hg; omega
    refine sl_region ?_
    refine sl_mv rfl rfl rfl ?_
    refine sl_nc rfl rfl rfl rfl ?_
    first
      | refine sl_fieldAddr_ptr rfl rfl rfl fo_80_1 ?_
      | refine sl_fieldAddr_rp rfl rfl rfl fo_80_1 ?_
      | refine sl_fieldAddr_ref rfl rfl rfl fo_80_1 ?_
    refine sl_stp rfl rfl rfl rfl sz_4 rfl rfl rfl (by repeat constructor) (Nat.le_of_ble_eq_true rfl) ?_
    refine sl_nil ?_
    refine sw_seq ?_
    refine sw_seq ?_
    refine sl_region ?_
    refine sl_as rfl rfl rfl ?_
    refine sl_nil ?_
    refine sw_block ?_
    refine sw_loopw (fun nX sX δX σX => ∃ (j : Nat), (1) = nX ∧ sX = ⟨58, (.cons 0 (.ptr q 0) (.cons 2 (.ptr b2 0) (.cons 3 (.ptr b3 0) (.cons 4 (.val (u64V n)) (.cons 5 (.val (.int .u64 (j : Int))) .nil)))))⟩ ∧ δX = [] ∧ σX = rd q r true :: .blk b2 [.fix [], .val (.bool false), .val (.bool false), .val (.int .i64 0), .val (.int .i64 0), .fix []] :: .blk b3 ([.val (.list (al.map almV)), .val (boolV e), .val (.bool i.some), .val (.int .i64 i.lo), .val (.int .i64 i.hi), .fix []]) :: σ) ?_ ?_
    · refine ⟨_, _, _, ?_, ?_, 0, rfl, rfl, rfl, rfl⟩
      · exact ⟨rfl, by repeat constructor⟩
      · repeat constructor
    rintro nX sX δX σX ⟨j, rfl, rfl, rfl, rfl⟩
    refine sw_seq ?_
    refine sw_seq ?_
    refine sl_region ?_
    refine sl_mv rfl rfl rfl ?_
    refine sl_mv rfl rfl rfl ?_
    refine sl_bin rfl rfl rfl rfl rfl ?_
    refine sl_mv rfl rfl rfl ?_
    refine sl_case_at 32 rfl (fun hj => ?_) (fun hj => ?_)
    · refine sl_guard_y rfl rfl rfl hj ?_
      refine sl_mv rfl rfl rfl ?_
      refine sl_guard_y rfl rfl rfl hj ?_
      refine sl_nc rfl rfl rfl rfl ?_
      refine sl_guard_y rfl rfl rfl hj ?_
      first
        | refine sl_fieldAddr_ptr rfl rfl rfl fo_80_1 ?_
        | refine sl_fieldAddr_rp rfl rfl rfl fo_80_1 ?_
        | refine sl_fieldAddr_ref rfl rfl rfl fo_80_1 ?_
      refine sl_guard_y rfl rfl rfl hj ?_
      first
        | refine sl_load_rp1 rfl rfl rfl ag_4 rfl ?_
        | refine sl_load_blk1 rfl rfl rfl ag_4 (by repeat constructor) rfl ?_
      refine sl_guard_y rfl rfl rfl hj ?_
      refine sl_not rfl rfl rfl ?_
      refine sl_pk_t rfl rfl rfl hj rfl ?_
      refine sl_nil ?_
      refine sw_false rfl (rfl) ?_
      refine sw_exit ?_
      refine sw_seq ?_
      refine sw_seq ?_
      refine sl_region ?_
      refine sl_mv rfl rfl rfl ?_
      refine sl_nc rfl rfl rfl rfl ?_
      first
        | refine sl_fieldAddr_ptr rfl rfl rfl fo_80_1 ?_
        | refine sl_fieldAddr_rp rfl rfl rfl fo_80_1 ?_
        | refine sl_fieldAddr_ref rfl rfl rfl fo_80_1 ?_
      first
        | refine sl_load_rp1 rfl rfl rfl ag_4 rfl ?_
        | refine sl_load_blk1 rfl rfl rfl ag_4 (by repeat constructor) rfl ?_
      refine sl_nil ?_
      refine sw_true rfl (rfl) ?_
      refine sw_seq ?_
      refine sl_region ?_
      refine sl_bd rfl rfl .nil bi_72 zd_72 rfl ?_
      refine sl_stp rfl rfl rfl rfl sz_72 rfl rfl rfl (by repeat constructor) (Nat.le_of_ble_eq_true rfl) ?_
      refine sl_nil ?_
      refine sw_ret ⟨rfl, _, _, ResD.weak (res_celln rfl rfl ag_72 sz_72 (by repeat constructor) (Nat.le_of_ble_eq_true rfl)) ((Weak.toV rfl) ), ?_, ⟨noSumm, none, _, rfl, out_none (out_summ o1 o2 o3 (ml_great o4 hg)), fun _ => rfl, ⟨r, rfl⟩, rfl⟩⟩
      repeat constructor
    refine sl_guard_n rfl rfl rfl hj ?_
    refine sl_guard_n rfl rfl rfl hj ?_
    refine sl_guard_n rfl rfl rfl hj ?_
    refine sl_guard_n rfl rfl rfl hj ?_
    refine sl_guard_n rfl rfl rfl hj ?_
    refine sl_pk_f rfl rfl rfl hj rfl ?_
    refine sl_nil ?_
    refine sw_false rfl (rfl) ?_
    refine sw_exit ?_
    refine sw_seq ?_
    refine sw_seq ?_
    refine sl_region ?_
    refine sl_mv rfl rfl rfl ?_
    refine sl_nc rfl rfl rfl rfl ?_
    first
      | refine sl_fieldAddr_ptr rfl rfl rfl fo_80_1 ?_
      | refine sl_fieldAddr_rp rfl rfl rfl fo_80_1 ?_
      | refine sl_fieldAddr_ref rfl rfl rfl fo_80_1 ?_
    first
      | refine sl_load_rp1 rfl rfl rfl ag_4 rfl ?_
      | refine sl_load_blk1 rfl rfl rfl ag_4 (by repeat constructor) rfl ?_
    refine sl_nil ?_
    refine sw_true rfl (rfl) ?_
    refine sw_seq ?_
    refine sl_region ?_
    refine sl_bd rfl rfl .nil bi_72 zd_72 rfl ?_
    refine sl_stp rfl rfl rfl rfl sz_72 rfl rfl rfl (by repeat constructor) (Nat.le_of_ble_eq_true rfl) ?_
    refine sl_nil ?_
    refine sw_ret ⟨rfl, _, _, ResD.weak (res_celln rfl rfl ag_72 sz_72 (by repeat constructor) (Nat.le_of_ble_eq_true rfl)) ((Weak.toV rfl) ), ?_, ⟨noSumm, none, _, rfl, out_none (out_summ o1 o2 o3 (ml_great o4 hg)), fun _ => rfl, ⟨r, rfl⟩, rfl⟩⟩
    repeat constructor
  have hg : n ≤ r.length := by have := of_decide_eq_false hg; omega
  refine sw_skip ?_
  refine sw_seq ?_
  refine sw_seq ?_
  refine sw_less (σ' := .blk b3 ([.val (.list (al.map almV)), .val (boolV e), .val (.bool i.some), .val (.int .i64 i.lo), .val (.int .i64 i.hi), .fix []]) :: rd q r false :: .blk b2 [.fix [], .val (.bool false), .val (.bool false), .val (.int .i64 0), .val (.int .i64 0), .fix []] :: σ) (by repeat constructor) ?_
  refine sw_own_blk (i := 5) (sz := 4) rfl (fun e0 => ?_)
  refine sl_region ?_
  refine sl_as rfl rfl rfl ?_
  refine sl_nil ?_
  refine sw_block ?_
  refine sw_loopw (fun nX sX δX σX => ∃ (j : Nat) (v : Value) (ml : List Nmd) (st5 : Option (List UInt8)) (c5 : Chunk), (n - j) = nX ∧ sX = ⟨58, (.cons 0 (.ptr q 0) (.cons 2 (.ptr b2 0) (.cons 3 (.ptr b3 0) (.cons 4 (.val (u64V n)) (.cons 5 (.val (.int .u64 (j : Int))) .nil)))))⟩ ∧ δX = [] ∧ σX = c5 :: .blk b3 ([.val (.list (al.map almV)), .val (boolV e), .val (.bool i.some), .val (.int .i64 i.lo), .val (.int .i64 i.hi), .own v (ml.map nmdV)]) :: .spare v 4 :: .blk b2 [.fix [], .val (.bool false), .val (.bool false), .val (.int .i64 0), .val (.int .i64 0), .fix []] :: σ ∧ (j ≤ n) ∧ (Out (decMany decM j) (some r) ml st5) ∧ (Rdr q st5 c5) ∧ (ml.length ≤ j)) ?_ ?_
  · refine ⟨_, _, _, ?_, ?_, 0, e0, [], some r, rd q r false, rfl, rfl, rfl, rfl, Nat.zero_le _, many_zero r, ⟨rfl, hr⟩, Nat.le_refl _⟩
    · exact ⟨rfl, by repeat constructor⟩
    · repeat constructor
  rintro nX sX δX σX ⟨j, v, ml, st5, c5, rfl, rfl, rfl, rfl, hj0, hout, hrd, hml⟩
  rcases st5 with _ | r2
  · obtain ⟨r2, rfl⟩ := hrd
    refine sw_seq ?_
    refine sw_seq ?_
    refine sl_region ?_
    refine sl_mv rfl rfl rfl ?_
    refine sl_mv rfl rfl rfl ?_
    refine sl_bin rfl rfl rfl rfl rfl ?_
    refine sl_mv rfl rfl rfl ?_
    refine sl_case_at 32 rfl (fun hj => ?_) (fun hj => ?_)
    · refine sl_guard_y rfl rfl rfl hj ?_
      refine sl_mv rfl rfl rfl ?_
      refine sl_guard_y rfl rfl rfl hj ?_
      refine sl_nc rfl rfl rfl rfl ?_
      refine sl_guard_y rfl rfl rfl hj ?_
      first
        | refine sl_fieldAddr_ptr rfl rfl rfl fo_80_1 ?_
        | refine sl_fieldAddr_rp rfl rfl rfl fo_80_1 ?_
        | refine sl_fieldAddr_ref rfl rfl rfl fo_80_1 ?_
      refine sl_guard_y rfl rfl rfl hj ?_
      first
        | refine sl_load_rp1 rfl rfl rfl ag_4 rfl ?_
        | refine sl_load_blk1 rfl rfl rfl ag_4 (by repeat constructor) rfl ?_
      refine sl_guard_y rfl rfl rfl hj ?_
      refine sl_not rfl rfl rfl ?_
      refine sl_pk_t rfl rfl rfl hj rfl ?_
      refine sl_nil ?_
      refine sw_false rfl (rfl) ?_
      refine sw_exit ?_
      refine sw_seq ?_
      refine sw_seq ?_
      refine sl_region ?_
      refine sl_mv rfl rfl rfl ?_
      refine sl_nc rfl rfl rfl rfl ?_
      first
        | refine sl_fieldAddr_ptr rfl rfl rfl fo_80_1 ?_
        | refine sl_fieldAddr_rp rfl rfl rfl fo_80_1 ?_
        | refine sl_fieldAddr_ref rfl rfl rfl fo_80_1 ?_
      first
        | refine sl_load_rp1 rfl rfl rfl ag_4 rfl ?_
        | refine sl_load_blk1 rfl rfl rfl ag_4 (by repeat constructor) rfl ?_
      refine sl_nil ?_
      refine sw_true rfl (rfl) ?_
      refine sw_seq ?_
      refine sl_region ?_
      refine sl_bd rfl rfl .nil bi_72 zd_72 rfl ?_
      refine sl_stp rfl rfl rfl rfl sz_72 rfl rfl rfl (by repeat constructor) (Nat.le_of_ble_eq_true rfl) ?_
      refine sl_nil ?_
      refine sw_ret ⟨rfl, _, _, ResD.weak (res_celln rfl rfl ag_72 sz_72 (by repeat constructor) (Nat.le_of_ble_eq_true rfl)) ((Weak.toV rfl) ), ?_, ⟨noSumm, none, _, rfl, out_none (out_summ o1 o2 o3 (ml_some o4 hg (many_fail (ys := []) hout n hj0))), fun _ => rfl, ⟨r2, rfl⟩, rfl⟩⟩
      repeat constructor
    refine sl_guard_n rfl rfl rfl hj ?_
    refine sl_guard_n rfl rfl rfl hj ?_
    refine sl_guard_n rfl rfl rfl hj ?_
    refine sl_guard_n rfl rfl rfl hj ?_
    refine sl_guard_n rfl rfl rfl hj ?_
    refine sl_pk_f rfl rfl rfl hj rfl ?_
    refine sl_nil ?_
    refine sw_false rfl (rfl) ?_
    refine sw_exit ?_
    refine sw_seq ?_
    refine sw_seq ?_
    refine sl_region ?_
    refine sl_mv rfl rfl rfl ?_
    refine sl_nc rfl rfl rfl rfl ?_
    first
      | refine sl_fieldAddr_ptr rfl rfl rfl fo_80_1 ?_
      | refine sl_fieldAddr_rp rfl rfl rfl fo_80_1 ?_
      | refine sl_fieldAddr_ref rfl rfl rfl fo_80_1 ?_
    first
      | refine sl_load_rp1 rfl rfl rfl ag_4 rfl ?_
      | refine sl_load_blk1 rfl rfl rfl ag_4 (by repeat constructor) rfl ?_
    refine sl_nil ?_
    refine sw_true rfl (rfl) ?_
    refine sw_seq ?_
    refine sl_region ?_
    refine sl_bd rfl rfl .nil bi_72 zd_72 rfl ?_
    refine sl_stp rfl rfl rfl rfl sz_72 rfl rfl rfl (by repeat constructor) (Nat.le_of_ble_eq_true rfl) ?_
    refine sl_nil ?_
    refine sw_ret ⟨rfl, _, _, ResD.weak (res_celln rfl rfl ag_72 sz_72 (by repeat constructor) (Nat.le_of_ble_eq_true rfl)) ((Weak.toV rfl) ), ?_, ⟨noSumm, none, _, rfl, out_none (out_summ o1 o2 o3 (ml_some o4 hg (many_fail (ys := []) hout n hj0))), fun _ => rfl, ⟨r2, rfl⟩, rfl⟩⟩
    repeat constructor
  obtain ⟨rfl, hr2⟩ := hrd
  refine sw_seq ?_
  refine sw_seq ?_
  refine sl_region ?_
  refine sl_mv rfl rfl rfl ?_
  refine sl_mv rfl rfl rfl ?_
  refine sl_bin rfl rfl rfl rfl rfl ?_
  refine sl_mv rfl rfl rfl ?_
  refine sl_case_at 32 rfl (fun hj => ?_) (fun hj => ?_)
  · have hj1 : j < n := by have := of_decide_eq_true hj; omega
    refine sl_guard_y rfl rfl rfl hj ?_
    refine sl_mv rfl rfl rfl ?_
    refine sl_guard_y rfl rfl rfl hj ?_
    refine sl_nc rfl rfl rfl rfl ?_
    refine sl_guard_y rfl rfl rfl hj ?_
    first
      | refine sl_fieldAddr_ptr rfl rfl rfl fo_80_1 ?_
      | refine sl_fieldAddr_rp rfl rfl rfl fo_80_1 ?_
      | refine sl_fieldAddr_ref rfl rfl rfl fo_80_1 ?_
    refine sl_guard_y rfl rfl rfl hj ?_
    first
      | refine sl_load_rp1 rfl rfl rfl ag_4 rfl ?_
      | refine sl_load_blk1 rfl rfl rfl ag_4 (by repeat constructor) rfl ?_
    refine sl_guard_y rfl rfl rfl hj ?_
    refine sl_not rfl rfl rfl ?_
    refine sl_pk_t rfl rfl rfl hj rfl ?_
    refine sl_nil ?_
    refine sw_true rfl (rfl) ?_
    have o6 := out_rdOf (dec := decT) (z := []) (some r2)
    refine sw_skip ?_
    refine sw_seq ?_
    refine sw_block ?_
    refine sw_seq ?_
    refine sl_region ?_
    refine sl_mv rfl rfl rfl ?_
    refine sl_callf rfl rfl cal_42 (ytext_ok q (some r2) (rd q r2 false) (.blk b3 ([.val (.list (al.map almV)), .val (boolV e), .val (.bool i.some), .val (.int .i64 i.lo), .val (.int .i64 i.hi), .own v (ml.map nmdV)]) :: .spare v 4 :: .blk b2 [.fix [], .val (.bool false), .val (.bool false), .val (.int .i64 0), .val (.int .i64 0), .fix []] :: σ) ⟨rfl, hr2⟩) ?_ ?_ ?_ (fun _ _ h => h.elim)
    · repeat constructor
    · repeat constructor
    rintro _ _ ⟨rfl, c6, h6, rfl⟩
    obtain ⟨tx, htx⟩ : ∃ b, b = (rdOf decT [] (some r2)).1 := ⟨_, rfl⟩
    obtain ⟨st6, hst6⟩ : ∃ b, b = (rdOf decT [] (some r2)).2 := ⟨_, rfl⟩
    rw [← htx, ← hst6] at o6
    rw [← hst6] at h6
    rw [← htx]
    refine sl_as rfl rfl rfl ?_
    refine sl_nil ?_
    refine sa_start [] mixed ?_
    first
      | refine sa_take 0 rfl rfl (by kernel_rfl) .nil (pu_fieldAddr_ptr rfl rfl fo_72_3) ?_
      | refine sa_take 0 rfl rfl (by kernel_rfl) .nil (pu_fieldAddr_rp rfl rfl fo_72_3) ?_
      | refine sa_take 0 rfl rfl (by kernel_rfl) .nil (pu_fieldAddr_ref rfl rfl fo_72_3) ?_
    refine sa_take 2 rfl rfl (by kernel_rfl) .nil (pu_mv rfl rfl) ?_
    refine sa_take 3 rfl rfl (by kernel_rfl) .nil (pu_mv rfl rfl) ?_
    refine sa_two 1 4 (by kernel_rfl) rfl rfl ?_ ?_
    · refine sl_load_blk1 rfl rfl rfl ag_70 (by repeat constructor) rfl ?_
      refine sl_nil ⟨.nil, ?_⟩
      refine sa_one 4 (by kernel_rfl) rfl ?_
      refine sl_callf rfl rfl cal_87 (yival_ok q st6 c6 (.blk b3 ([.val (.list (al.map almV)), .val (boolV e), .val (.bool i.some), .val (.int .i64 i.lo), .val (.int .i64 i.hi), .own v (ml.map nmdV)]) :: .spare v 4 :: .blk b2 [.fix [], .val (.bool false), .val (.bool false), .val (.int .i64 0), .val (.int .i64 0), .fix []] :: σ) h6) ?_ ?_ ?_ (fun _ _ h => h.elim)
      · repeat constructor
      · repeat constructor
      rintro _ _ ⟨i7, st7, c7, rfl, o7, h7, rfl⟩
      refine sl_nil ⟨.nil, ?_⟩
      refine sa_take 5 rfl rfl (by kernel_rfl) .nil (pu_bd rfl (.cons rfl (.cons rfl .nil)) bi_127 zd_127 rfl) ?_
      refine sa_one 6 (by kernel_rfl) rfl ?_
      refine sl_bsn ([nmdV ⟨tx, i7⟩]) rfl rfl (.cons rfl .nil) u_70 sz_127 zs_127 (by decide) rfl rfl rfl (SzI.get (by repeat constructor)) ?_
      refine sl_nil ⟨.nil, ?_⟩
      refine sa_one 7 (by kernel_rfl) rfl ?_
      refine sl_appp rfl rfl rfl rfl u_70 ⟨_, u_70, rfl⟩ el_127 (by repeat constructor) (by repeat constructor) (by simp only [List.length_map, List.length_cons, List.length_nil]; omega) ((by rw [List.map_append]; rfl : _ = (ml ++ [Nmd.mk tx i7]).map nmdV)) (by repeat constructor) (fun v50 => ?_)
      refine sl_nil ⟨.nil, ?_⟩
      first
        | refine sa_take 8 rfl rfl (by kernel_rfl) .nil (pu_fieldAddr_ptr rfl rfl fo_72_3) ?_
        | refine sa_take 8 rfl rfl (by kernel_rfl) .nil (pu_fieldAddr_rp rfl rfl fo_72_3) ?_
        | refine sa_take 8 rfl rfl (by kernel_rfl) .nil (pu_fieldAddr_ref rfl rfl fo_72_3) ?_
      refine sa_one 9 (by kernel_rfl) rfl ?_
      refine sl_stp rfl rfl rfl rfl sz_70 rfl rfl rfl (by repeat constructor) (Nat.le_of_ble_eq_true rfl) ?_
      refine sl_nil ⟨.nil, ?_⟩
      refine sa_done (by kernel_rfl) ?_
      refine sl_region ?_
      refine sl_mv rfl rfl rfl ?_
      refine sl_bin rfl rfl rfl rfl rfl ?_
      refine sl_set 40 (.val (.int .u64 ((j + 1 : Nat) : Int))) (congrArg (fun z => D.val (.int .u64 z)) (wrapped_u64 (j + 1) (by omega))) ?_
      refine sl_as rfl rfl rfl ?_
      refine sl_nil ?_
      refine ⟨_, by omega, _, _, ?_, ?_, j + 1, v50, _, st7, c7, rfl, rfl, rfl, rfl, by omega, many_succ hout (out_nmd o6 o7), h7, by rw [List.length_append]; simp; omega⟩
      · exact ⟨rfl, by repeat constructor⟩
      · repeat constructor
    refine sl_callf rfl rfl cal_87 (yival_ok q st6 c6 (.blk b3 ([.val (.list (al.map almV)), .val (boolV e), .val (.bool i.some), .val (.int .i64 i.lo), .val (.int .i64 i.hi), .own v (ml.map nmdV)]) :: .spare v 4 :: .blk b2 [.fix [], .val (.bool false), .val (.bool false), .val (.int .i64 0), .val (.int .i64 0), .fix []] :: σ) h6) ?_ ?_ ?_ (fun _ _ h => h.elim)
    · repeat constructor
    · repeat constructor
    rintro _ _ ⟨i7, st7, c7, rfl, o7, h7, rfl⟩
    refine sl_nil ⟨.nil, ?_⟩
    refine sa_take 5 rfl rfl (by kernel_rfl) .nil (pu_bd rfl (.cons rfl (.cons rfl .nil)) bi_127 zd_127 rfl) ?_
    refine sa_two 1 6 (by kernel_rfl) rfl rfl ?_ ?_
    · refine sl_load_blk1 rfl rfl rfl ag_70 (by repeat constructor) rfl ?_
      refine sl_nil ⟨.nil, ?_⟩
      refine sa_one 6 (by kernel_rfl) rfl ?_
      refine sl_bsn ([nmdV ⟨tx, i7⟩]) rfl rfl (.cons rfl .nil) u_70 sz_127 zs_127 (by decide) rfl rfl rfl (SzI.get (by repeat constructor)) ?_
      refine sl_nil ⟨.nil, ?_⟩
      refine sa_one 7 (by kernel_rfl) rfl ?_
      refine sl_appp rfl rfl rfl rfl u_70 ⟨_, u_70, rfl⟩ el_127 (by repeat constructor) (by repeat constructor) (by simp only [List.length_map, List.length_cons, List.length_nil]; omega) ((by rw [List.map_append]; rfl : _ = (ml ++ [Nmd.mk tx i7]).map nmdV)) (by repeat constructor) (fun v50 => ?_)
      refine sl_nil ⟨.nil, ?_⟩
      first
        | refine sa_take 8 rfl rfl (by kernel_rfl) .nil (pu_fieldAddr_ptr rfl rfl fo_72_3) ?_
        | refine sa_take 8 rfl rfl (by kernel_rfl) .nil (pu_fieldAddr_rp rfl rfl fo_72_3) ?_
        | refine sa_take 8 rfl rfl (by kernel_rfl) .nil (pu_fieldAddr_ref rfl rfl fo_72_3) ?_
      refine sa_one 9 (by kernel_rfl) rfl ?_
      refine sl_stp rfl rfl rfl rfl sz_70 rfl rfl rfl (by repeat constructor) (Nat.le_of_ble_eq_true rfl) ?_
      refine sl_nil ⟨.nil, ?_⟩
      refine sa_done (by kernel_rfl) ?_
      refine sl_region ?_
      refine sl_mv rfl rfl rfl ?_
      refine sl_bin rfl rfl rfl rfl rfl ?_
      refine sl_set 40 (.val (.int .u64 ((j + 1 : Nat) : Int))) (congrArg (fun z => D.val (.int .u64 z)) (wrapped_u64 (j + 1) (by omega))) ?_
      refine sl_as rfl rfl rfl ?_
      refine sl_nil ?_
      refine ⟨_, by omega, _, _, ?_, ?_, j + 1, v50, _, st7, c7, rfl, rfl, rfl, rfl, by omega, many_succ hout (out_nmd o6 o7), h7, by rw [List.length_append]; simp; omega⟩
      · exact ⟨rfl, by repeat constructor⟩
      · repeat constructor
    refine sl_bsn ([nmdV ⟨tx, i7⟩]) rfl rfl (.cons rfl .nil) u_70 sz_127 zs_127 (by decide) rfl rfl rfl (SzI.get (by repeat constructor)) ?_
    refine sl_nil ⟨.nil, ?_⟩
    refine sa_one 1 (by kernel_rfl) rfl ?_
    refine sl_load_blk1 rfl rfl rfl ag_70 (by repeat constructor) rfl ?_
    refine sl_nil ⟨.nil, ?_⟩
    refine sa_one 7 (by kernel_rfl) rfl ?_
    refine sl_appp rfl rfl rfl rfl u_70 ⟨_, u_70, rfl⟩ el_127 (by repeat constructor) (by repeat constructor) (by simp only [List.length_map, List.length_cons, List.length_nil]; omega) ((by rw [List.map_append]; rfl : _ = (ml ++ [Nmd.mk tx i7]).map nmdV)) (by repeat constructor) (fun v50 => ?_)
    refine sl_nil ⟨.nil, ?_⟩
    first
      | refine sa_take 8 rfl rfl (by kernel_rfl) .nil (pu_fieldAddr_ptr rfl rfl fo_72_3) ?_
      | refine sa_take 8 rfl rfl (by kernel_rfl) .nil (pu_fieldAddr_rp rfl rfl fo_72_3) ?_
      | refine sa_take 8 rfl rfl (by kernel_rfl) .nil (pu_fieldAddr_ref rfl rfl fo_72_3) ?_
    refine sa_one 9 (by kernel_rfl) rfl ?_
    refine sl_stp rfl rfl rfl rfl sz_70 rfl rfl rfl (by repeat constructor) (Nat.le_of_ble_eq_true rfl) ?_
    refine sl_nil ⟨.nil, ?_⟩
    refine sa_done (by kernel_rfl) ?_
    refine sl_region ?_
    refine sl_mv rfl rfl rfl ?_
    refine sl_bin rfl rfl rfl rfl rfl ?_
    refine sl_set 40 (.val (.int .u64 ((j + 1 : Nat) : Int))) (congrArg (fun z => D.val (.int .u64 z)) (wrapped_u64 (j + 1) (by omega))) ?_
    refine sl_as rfl rfl rfl ?_
    refine sl_nil ?_
    refine ⟨_, by omega, _, _, ?_, ?_, j + 1, v50, _, st7, c7, rfl, rfl, rfl, rfl, by omega, many_succ hout (out_nmd o6 o7), h7, by rw [List.length_append]; simp; omega⟩
    · exact ⟨rfl, by repeat constructor⟩
    · repeat constructor
  have hj1 : j = n := by have := of_decide_eq_false hj; omega
  subst hj1
  refine sl_guard_n rfl rfl rfl hj ?_
  refine sl_guard_n rfl rfl rfl hj ?_
  refine sl_guard_n rfl rfl rfl hj ?_
  refine sl_guard_n rfl rfl rfl hj ?_
  refine sl_guard_n rfl rfl rfl hj ?_
  refine sl_pk_f rfl rfl rfl hj rfl ?_
  refine sl_nil ?_
  refine sw_false rfl (rfl) ?_
  refine sw_exit ?_
  refine sw_seq ?_
  refine sw_seq ?_
  refine sl_region ?_
  refine sl_mv rfl rfl rfl ?_
  refine sl_nc rfl rfl rfl rfl ?_
  first
    | refine sl_fieldAddr_ptr rfl rfl rfl fo_80_1 ?_
    | refine sl_fieldAddr_rp rfl rfl rfl fo_80_1 ?_
    | refine sl_fieldAddr_ref rfl rfl rfl fo_80_1 ?_
  first
    | refine sl_load_rp1 rfl rfl rfl ag_4 rfl ?_
    | refine sl_load_blk1 rfl rfl rfl ag_4 (by repeat constructor) rfl ?_
  refine sl_nil ?_
  refine sw_false rfl (rfl) ?_
  refine sw_skip ?_
  refine sw_seq ?_
  refine sl_region ?_
  first
    | refine sl_load_rpn rfl rfl rfl ag_72 sz_72 (Nat.le_of_ble_eq_true rfl) ?_
    | refine sl_load_blkn rfl rfl rfl ag_72 sz_72 (by repeat constructor) (Nat.le_of_ble_eq_true rfl) ?_
    | refine sl_load_ref rfl rfl rfl ag_72 sz_72 (Nat.le_of_ble_eq_true rfl) ?_
  refine sl_stp rfl rfl rfl rfl sz_72 rfl rfl rfl (by repeat constructor) (Nat.le_of_ble_eq_true rfl) ?_
  refine sl_nil ?_
  refine sw_ret ⟨rfl, _, _, ResD.weak (res_celln rfl rfl ag_72 sz_72 (by repeat constructor) (Nat.le_of_ble_eq_true rfl)) ((Weak.toV rfl) ), ?_, ⟨⟨al, e, i, ml⟩, some r2, _, rfl, out_summ o1 o2 o3 (ml_some o4 hg hout), fun h => (by cases h), ⟨rfl, hr2⟩, rfl⟩⟩
  repeat constructor

end Go.Proofs.Ytioechdfghglhaa

/- Walks: printed by a program of this session out of its script CodeP. -/
namespace Go.Proofs.Ytioechdfghglhaa
set_option linter.unusedVariables false
set_option linter.unusedSimpArgs false
set_option maxRecDepth 4000
set_option maxHeartbeats 4000000
open Go Go.RowKit SL


/-- small reads a number of 32 bits. -/
theorem rsmall_ok (q : Nat) (l : List UInt8) (σ : List Chunk) :
    FSpecP Try.prog 101 [.ptr q 0] (rd q l false :: σ) (fun d σ' => ∃ v r, decS l = some (v, r) ∧ d = .val (i64V v) ∧ σ' = rd q r false :: σ)
      (fun ch σ' => decS l = none ∧ ch = stop ∧ ∃ r, σ' = rd q r false :: σ) := by
  refine spec_of_sw Try.func101 rfl ?_
  refine sw_seq ?_
  refine sl_region ?_
  refine sl_as rfl rfl rfl ?_
  refine sl_nil ?_
  refine sw_seq ?_
  refine sl_region ?_
  refine sl_mv rfl rfl rfl ?_
  refine sl_callf rfl rfl cal_62 (rint_ok q l σ) ?_ ?_ ?_ (fun _ _ h => by obtain ⟨h1, rfl, r, rfl⟩ := h; exact ⟨rfl, _, Sub.refl _, by unfold decS bindR; rw [h1], rfl, _, rfl⟩)
  · repeat constructor
  · repeat constructor
  rintro _ _ ⟨n, r, hd, rfl, rfl⟩
  refine sl_as rfl rfl rfl ?_
  refine sl_nil ?_
  refine sw_seq ?_
  refine sl_region ?_
  refine sl_mv rfl rfl rfl ?_
  refine sl_bin rfl rfl rfl rfl rfl ?_
  refine sl_mv rfl rfl rfl ?_
  refine sl_case_at 8 rfl (fun ha => ?_) (fun ha => ?_)
  · refine sl_guard_y rfl rfl rfl ha ?_
    refine sl_mv rfl rfl rfl ?_
    refine sl_guard_y rfl rfl rfl ha ?_
    refine sl_bin rfl rfl rfl rfl rfl ?_
    refine sl_pk_t rfl rfl rfl ha rfl ?_
    refine sl_callf rfl rfl cal_98 (must_ok (decide (n ≤ 2147483647)) (rd q r false :: σ)) ?_ ?_ ?_ (fun _ _ h => by obtain ⟨hb, rfl, rfl⟩ := h; exact ⟨rfl, _, Sub.refl _, by unfold decS bindR; rw [hd]; exact if_neg (fun h => by have := of_decide_eq_false hb; have := h.2; omega), rfl, _, rfl⟩)
    · repeat constructor
    · repeat constructor
    rintro _ _ ⟨hb, rfl, rfl⟩
    refine sl_nil ?_
    refine sw_seq ?_
    refine sl_region ?_
    refine sl_mv rfl rfl rfl ?_
    refine sl_as rfl rfl rfl ?_
    refine sl_nil ?_
    refine sw_ret ⟨rfl, _, _, res_one rfl rfl, ?_, ⟨n, r, by unfold decS bindR; rw [hd]; exact if_pos ⟨by have := of_decide_eq_true ha; omega, of_decide_eq_true hb⟩, rfl, rfl⟩⟩
    repeat constructor
  refine sl_guard_n rfl rfl rfl ha ?_
  refine sl_guard_n rfl rfl rfl ha ?_
  refine sl_pk_f rfl rfl rfl ha rfl ?_
  refine sl_callf rfl rfl cal_98 (must_ok false (rd q r false :: σ)) ?_ ?_ ?_ (fun _ _ h => by obtain ⟨_, rfl, rfl⟩ := h; exact ⟨rfl, _, Sub.refl _, by unfold decS bindR; rw [hd]; exact if_neg (fun h => by have := of_decide_eq_false ha; have := h.1; omega), rfl, _, rfl⟩)
  · repeat constructor
  · repeat constructor
  rintro _ _ ⟨⟨⟩, _, _⟩

/-- count reads how many there are. -/
theorem rcount_ok (q : Nat) (l : List UInt8) (σ : List Chunk) (hl : l.length ≤ 100000000) :
    FSpecP Try.prog 100 [.ptr q 0] (rd q l false :: σ) (fun d σ' => ∃ v r, decC l = some (v, r) ∧ d = .val (.int .i64 (v : Int)) ∧ σ' = rd q r false :: σ)
      (fun ch σ' => decC l = none ∧ ch = stop ∧ ∃ r, σ' = rd q r false :: σ) := by
  refine spec_of_sw Try.func100 rfl ?_
  refine sw_seq ?_
  refine sl_region ?_
  refine sl_as rfl rfl rfl ?_
  refine sl_nil ?_
  refine sw_seq ?_
  refine sl_region ?_
  refine sl_mv rfl rfl rfl ?_
  refine sl_callf rfl rfl cal_73 (rnum_ok q l σ) ?_ ?_ ?_ (fun _ _ h => by obtain ⟨h1, rfl, r, rfl⟩ := h; exact ⟨rfl, _, Sub.refl _, by unfold decC bindR; rw [h1], rfl, _, rfl⟩)
  · repeat constructor
  · repeat constructor
  rintro _ _ ⟨n, r, hd, rfl, rfl⟩
  refine sl_as rfl rfl rfl ?_
  refine sl_nil ?_
  refine sw_seq ?_
  refine sl_region ?_
  refine sl_mv rfl rfl rfl ?_
  refine sl_mv rfl rfl rfl ?_
  refine sl_nc rfl rfl rfl rfl ?_
  first
    | refine sl_fieldAddr_ptr rfl rfl rfl fo_113_0 ?_
    | refine sl_fieldAddr_rp rfl rfl rfl fo_113_0 ?_
    | refine sl_fieldAddr_ref rfl rfl rfl fo_113_0 ?_
  first
    | refine sl_load_rp1 rfl rfl rfl ag_26 rfl ?_
    | refine sl_load_blk1 rfl rfl rfl ag_26 (by repeat constructor) rfl ?_
  first
    | refine sl_len rfl rfl rfl ⟨_, u_26⟩ ?_
    | refine sl_len_sl rfl rfl rfl ⟨_, u_26⟩ ?_
    | refine sl_len_w _ rfl rfl rfl ⟨_, u_26⟩ ?_
  refine sl_conv_int rfl rfl rfl is_3 u_37 ?_
  have hr := Nat.le_trans (decN_len hd) hl
  refine sl_set 12 (.val (.int .u64 (r.length : Int))) (len_u64 hr) ?_
  refine sl_bin rfl rfl rfl rfl rfl ?_
  refine sl_callf rfl rfl cal_98 (must_ok (decide ((n : Int) ≤ (r.length : Int))) (rd q r false :: σ)) ?_ ?_ ?_ (fun _ _ h => by obtain ⟨hb, rfl, rfl⟩ := h; exact ⟨rfl, _, Sub.refl _, by unfold decC bindR; rw [hd]; exact if_neg (by have := of_decide_eq_false hb; omega), rfl, _, rfl⟩)
  · repeat constructor
  · repeat constructor
  rintro _ _ ⟨hb, rfl, rfl⟩
  have hb : n ≤ r.length := by have := of_decide_eq_true hb; omega
  refine sl_nil ?_
  refine sw_seq ?_
  refine sl_region ?_
  refine sl_mv rfl rfl rfl ?_
  refine sl_conv_int rfl rfl rfl is_37 u_3 ?_
  refine sl_set 16 (.val (.int .i64 (n : Int))) (congrArg (fun z => D.val (.int .i64 z)) (wrap_i64 (n := (n : Int)) (by omega) (by omega))) ?_
  refine sl_as rfl rfl rfl ?_
  refine sl_nil ?_
  refine sw_ret ⟨rfl, _, _, res_one rfl rfl, ?_, ⟨n, r, by unfold decC bindR; rw [hd]; exact if_pos hb, rfl, rfl⟩⟩
  repeat constructor

/-- ival reads an interval. -/
theorem rival_ok (q : Nat) (l : List UInt8) (σ : List Chunk) :
    FSpecP Try.prog 102 [.ptr q 0] (rd q l false :: σ) (fun d σ' => ∃ v r, decV l = some (v, r) ∧ d = .val (ivlV v) ∧ σ' = rd q r false :: σ)
      (fun ch σ' => decV l = none ∧ ch = stop ∧ ∃ r, σ' = rd q r false :: σ) := by
  refine spec_of_sw Try.func102 rfl ?_
  refine sw_seq ?_
  refine sl_region ?_
  refine sl_alloc rfl rfl zd_69 (fun b2 => ?_)
  refine sl_nil ?_
  refine sw_seq ?_
  refine sw_seq ?_
  refine sl_region ?_
  refine sl_mv rfl rfl rfl ?_
  refine sl_callf rfl rfl cal_75 (rbool_ok q l (.blk b2 [.val (.bool false), .val (.int .i64 0), .val (.int .i64 0)] :: σ)) ?_ ?_ ?_ (fun _ _ h => by obtain ⟨h1, rfl, r, rfl⟩ := h; exact ⟨rfl, _, (by repeat constructor), by unfold decV bindR; rw [h1], rfl, _, rfl⟩)
  · repeat constructor
  · repeat constructor
  rintro _ _ ⟨b, r1, h1, rfl, rfl⟩
  refine sl_not rfl rfl rfl ?_
  refine sl_nil ?_
  refine sw_cond rfl (fun ht => ?_) (fun ht => ?_)
  · obtain rfl : b = false := by simpa using ht
    refine sw_seq ?_
    refine sl_region ?_
    refine sl_bd rfl rfl .nil bi_69 zd_69 rfl ?_
    refine sl_stp rfl rfl rfl rfl sz_69 rfl rfl rfl (by repeat constructor) (Nat.le_of_ble_eq_true rfl) ?_
    refine sl_nil ?_
    refine sw_ret ⟨rfl, _, _, ResD.weak (res_celln rfl rfl ag_69 sz_69 (by repeat constructor) (Nat.le_of_ble_eq_true rfl)) ((Weak.toV rfl) ), ?_, ⟨noIval, r1, by unfold decV bindR; rw [h1]; rfl, rfl, rfl⟩⟩
    repeat constructor
  obtain rfl : b = true := by simpa using ht
  refine sw_skip ?_
  refine sw_seq ?_
  refine sl_region ?_
  refine sl_mv rfl rfl rfl ?_
  refine sl_callf rfl rfl cal_62 (rint_ok q r1 (.blk b2 [.val (.bool false), .val (.int .i64 0), .val (.int .i64 0)] :: σ)) ?_ ?_ ?_ (fun _ _ h => by obtain ⟨h2, rfl, r, rfl⟩ := h; exact ⟨rfl, _, (by repeat constructor), by unfold decV bindR; rw [h1]; simp only [if_true]; rw [h2], rfl, _, rfl⟩)
  · repeat constructor
  · repeat constructor
  rintro _ _ ⟨lo, r2, h2, rfl, rfl⟩
  refine sl_as rfl rfl rfl ?_
  refine sl_nil ?_
  refine sw_seq ?_
  refine sl_region ?_
  refine sl_mv rfl rfl rfl ?_
  refine sl_mv rfl rfl rfl ?_
  refine sl_callf rfl rfl cal_62 (rint_ok q r2 (.blk b2 [.val (.bool false), .val (.int .i64 0), .val (.int .i64 0)] :: σ)) ?_ ?_ ?_ (fun _ _ h => by obtain ⟨h3, rfl, r, rfl⟩ := h; exact ⟨rfl, _, (by repeat constructor), by unfold decV bindR; rw [h1]; simp only [if_true]; rw [h2]; simp only; rw [h3], rfl, _, rfl⟩)
  · repeat constructor
  · repeat constructor
  rintro _ _ ⟨hi, r3, h3, rfl, rfl⟩
  refine sl_bd rfl rfl (.cons rfl (.cons rfl (.cons rfl .nil))) bi_69 zd_69 rfl ?_
  refine sl_stp rfl rfl rfl rfl sz_69 rfl rfl rfl (by repeat constructor) (Nat.le_of_ble_eq_true rfl) ?_
  refine sl_nil ?_
  refine sw_ret ⟨rfl, _, _, ResD.weak (res_celln rfl rfl ag_69 sz_69 (by repeat constructor) (Nat.le_of_ble_eq_true rfl)) ((Weak.toV rfl) ), ?_, ⟨⟨true, lo, hi⟩, r3, by unfold decV bindR; rw [h1]; simp only [if_true]; rw [h2]; simp only; rw [h3], rfl, rfl⟩⟩
  repeat constructor

end Go.Proofs.Ytioechdfghglhaa

/- Walks: printed by a program of this session out of its script CodeQ. -/
namespace Go.Proofs.Ytioechdfghglhaa
set_option linter.unusedVariables false
set_option linter.unusedSimpArgs false
set_option maxRecDepth 4000
set_option maxHeartbeats 4000000
open Go Go.RowKit SL


/-- summary reads a summary. -/
theorem rsumm_ok (q : Nat) (l : List UInt8) (σ : List Chunk) (hl : l.length ≤ 100000000) :
    FSpecP Try.prog 85 [.ptr q 0] (rd q l false :: σ) (fun d σ' => ∃ v r, decSumm l = some (v, r) ∧ r.length ≤ l.length ∧ d = .val (smyV v) ∧ σ' = rd q r false :: σ)
      (fun ch σ' => decSumm l = none ∧ ch = stop ∧ ∃ r, σ' = rd q r false :: σ) := by
  refine spec_of_sw Try.func85 rfl ?_
  refine sw_seq ?_
  refine sl_region ?_
  refine sl_alloc rfl rfl zd_72 (fun b2 => ?_)
  refine sl_nil ?_
  refine sw_seq ?_
  refine sl_region ?_
  refine sl_alloc rfl rfl zd_72 (fun b3 => ?_)
  refine sl_nil ?_
  refine sw_seq ?_
  refine sw_seq ?_
  refine sl_region ?_
  refine sl_mv rfl rfl rfl ?_
  refine sl_callf rfl rfl cal_100 (rcount_ok q l (.blk b3 [.fix [], .val (.bool false), .val (.bool false), .val (.int .i64 0), .val (.int .i64 0), .fix []] :: .blk b2 [.fix [], .val (.bool false), .val (.bool false), .val (.int .i64 0), .val (.int .i64 0), .fix []] :: σ) hl) ?_ ?_ ?_ (fun _ _ h => by obtain ⟨h1, rfl, r, rfl⟩ := h; exact ⟨rfl, _, (by repeat constructor), sum_bad_al (al_bad h1), rfl, _, rfl⟩)
  · repeat constructor
  · repeat constructor
  rintro _ _ ⟨n, r, hc, rfl, rfl⟩
  have hr : r.length ≤ l.length := (decC_inv hc).2.2
  have hn : n ≤ r.length := (decC_inv hc).2.1
  refine sl_mv rfl rfl rfl ?_
  refine sl_nil ?_
  refine sw_block ?_
  refine sw_less (σ' := .blk b3 [.fix [], .val (.bool false), .val (.bool false), .val (.int .i64 0), .val (.int .i64 0), .fix []] :: rd q r false :: .blk b2 [.fix [], .val (.bool false), .val (.bool false), .val (.int .i64 0), .val (.int .i64 0), .fix []] :: σ) (by repeat constructor) ?_
  refine sw_own_blk (i := 0) (sz := 2) rfl (fun e0 => ?_)
  refine sw_loopw (fun nX sX δX σX => ∃ (j : Nat) (v : Value) (al : List Alm) (r2 : List UInt8), (n - j) = nX ∧ sX = ⟨45, (.cons 0 (.ptr q 0) (.cons 2 (.ptr b2 0) (.cons 3 (.ptr b3 0) (.cons 7 (.val (.int .i64 (n : Int))) (.cons 8 (.val (.int .i64 (j : Int))) .nil)))))⟩ ∧ δX = [] ∧ σX = rd q r2 false :: .blk b3 [.own v (al.map almV), .val (.bool false), .val (.bool false), .val (.int .i64 0), .val (.int .i64 0), .fix []] :: .spare v 2 :: .blk b2 [.fix [], .val (.bool false), .val (.bool false), .val (.int .i64 0), .val (.int .i64 0), .fix []] :: σ ∧ (j ≤ n) ∧ (Out (decMany decA j) (some r) al (some r2)) ∧ (r2.length ≤ l.length) ∧ (al.length ≤ j)) ?_ ?_
  · refine ⟨_, _, _, ?_, ?_, 0, e0, [], r, rfl, rfl, rfl, rfl, Nat.zero_le _, many_zero r, hr, Nat.le_refl _⟩
    · exact ⟨rfl, by repeat constructor⟩
    · repeat constructor
  rintro nX sX δX σX ⟨j, v, al, r2, rfl, rfl, rfl, rfl, hj0, hout, hr2, hal⟩
  refine sw_seq ?_
  refine sl_region ?_
  refine sl_bin rfl rfl rfl rfl rfl ?_
  refine sl_nil ?_
  refine sw_seq ?_
  refine sw_cond rfl (fun hj => ?_) (fun hj => ?_)
  · have hj1 : j < n := by have := of_decide_eq_true hj; omega
    refine sw_skip ?_
    refine sw_seq ?_
    refine sw_block ?_
    refine sw_seq ?_
    refine sl_region ?_
    refine sl_mv rfl rfl rfl ?_
    refine sl_callf rfl rfl cal_101 (rsmall_ok q r2 (.blk b3 [.own v (al.map almV), .val (.bool false), .val (.bool false), .val (.int .i64 0), .val (.int .i64 0), .fix []] :: .spare v 2 :: .blk b2 [.fix [], .val (.bool false), .val (.bool false), .val (.int .i64 0), .val (.int .i64 0), .fix []] :: σ)) ?_ ?_ ?_ (fun _ _ h => by obtain ⟨h1, rfl, r, rfl⟩ := h; exact ⟨rfl, _, (by repeat constructor), sum_bad_al (al_good hc (many_bad hout (decA_bad1 h1) hj1)), rfl, _, rfl⟩)
    · repeat constructor
    · repeat constructor
    rintro _ _ ⟨a, r3, h3, rfl, rfl⟩
    refine sl_as rfl rfl rfl ?_
    refine sl_nil ?_
    refine sa_start [] mixed ?_
    first
      | refine sa_take 0 rfl rfl (by kernel_rfl) .nil (pu_fieldAddr_ptr rfl rfl fo_72_0) ?_
      | refine sa_take 0 rfl rfl (by kernel_rfl) .nil (pu_fieldAddr_rp rfl rfl fo_72_0) ?_
      | refine sa_take 0 rfl rfl (by kernel_rfl) .nil (pu_fieldAddr_ref rfl rfl fo_72_0) ?_
    refine sa_take 2 rfl rfl (by kernel_rfl) .nil (pu_mv rfl rfl) ?_
    refine sa_take 3 rfl rfl (by kernel_rfl) .nil (pu_mv rfl rfl) ?_
    refine sa_two 1 4 (by kernel_rfl) rfl rfl ?_ ?_
    · refine sl_load_blk1 rfl rfl rfl ag_67 (by repeat constructor) rfl ?_
      refine sl_nil ⟨.nil, ?_⟩
      refine sa_one 4 (by kernel_rfl) rfl ?_
      refine sl_callf rfl rfl cal_101 (rsmall_ok q r3 (.blk b3 [.own v (al.map almV), .val (.bool false), .val (.bool false), .val (.int .i64 0), .val (.int .i64 0), .fix []] :: .spare v 2 :: .blk b2 [.fix [], .val (.bool false), .val (.bool false), .val (.int .i64 0), .val (.int .i64 0), .fix []] :: σ)) ?_ ?_ ?_ (fun _ _ h => by obtain ⟨h1, rfl, r, rfl⟩ := h; exact ⟨rfl, _, (by repeat constructor), sum_bad_al (al_good hc (many_bad hout (decA_bad2 h3 h1) hj1)), rfl, _, rfl⟩)
      · repeat constructor
      · repeat constructor
      rintro _ _ ⟨k, r4, h4, rfl, rfl⟩
      refine sl_nil ⟨.nil, ?_⟩
      refine sa_take 5 rfl rfl (by kernel_rfl) .nil (pu_bd rfl (.cons rfl (.cons rfl .nil)) bi_86 zd_86 rfl) ?_
      refine sa_one 6 (by kernel_rfl) rfl ?_
      refine sl_bsn ([almV ⟨a, k⟩]) rfl rfl (.cons rfl .nil) u_67 sz_86 zs_86 (by decide) rfl rfl rfl (SzI.get (by repeat constructor)) ?_
      refine sl_nil ⟨.nil, ?_⟩
      refine sa_one 7 (by kernel_rfl) rfl ?_
      refine sl_appp rfl rfl rfl rfl u_67 ⟨_, u_67, rfl⟩ el_86 (by repeat constructor) (by repeat constructor) (by simp only [List.length_map, List.length_cons, List.length_nil]; omega) ((by rw [List.map_append]; rfl : _ = (al ++ [Alm.mk a k]).map almV)) (by repeat constructor) (fun v19 => ?_)
      refine sl_nil ⟨.nil, ?_⟩
      first
        | refine sa_take 8 rfl rfl (by kernel_rfl) .nil (pu_fieldAddr_ptr rfl rfl fo_72_0) ?_
        | refine sa_take 8 rfl rfl (by kernel_rfl) .nil (pu_fieldAddr_rp rfl rfl fo_72_0) ?_
        | refine sa_take 8 rfl rfl (by kernel_rfl) .nil (pu_fieldAddr_ref rfl rfl fo_72_0) ?_
      refine sa_one 9 (by kernel_rfl) rfl ?_
      refine sl_stp rfl rfl rfl rfl sz_67 rfl rfl rfl (by repeat constructor) (Nat.le_of_ble_eq_true rfl) ?_
      refine sl_nil ⟨.nil, ?_⟩
      refine sa_done (by kernel_rfl) ?_
      refine sl_region ?_
      first
        | refine sl_inc rfl rfl rfl rfl (by omega) ?_
        | refine sl_add rfl rfl rfl rfl (by constructor <;> omega) ?_
        | refine sl_bin rfl rfl rfl rfl rfl ?_
      refine sl_mv rfl rfl rfl ?_
      refine sl_nil ?_
      refine ⟨_, by omega, _, _, ?_, ?_, j + 1, v19, _, r4, rfl, rfl, rfl, rfl, by omega, many_succ hout (out_alm (st := some r2) (st1 := some r3) (st2 := some r4) h3 h4), by have := (decS_len h3).1; have := (decS_len h4).1; omega, by rw [List.length_append]; simp; omega⟩
      · exact ⟨rfl, by repeat constructor⟩
      · repeat constructor
    refine sl_callf rfl rfl cal_101 (rsmall_ok q r3 (.blk b3 [.own v (al.map almV), .val (.bool false), .val (.bool false), .val (.int .i64 0), .val (.int .i64 0), .fix []] :: .spare v 2 :: .blk b2 [.fix [], .val (.bool false), .val (.bool false), .val (.int .i64 0), .val (.int .i64 0), .fix []] :: σ)) ?_ ?_ ?_ (fun _ _ h => by obtain ⟨h1, rfl, r, rfl⟩ := h; exact ⟨rfl, _, (by repeat constructor), sum_bad_al (al_good hc (many_bad hout (decA_bad2 h3 h1) hj1)), rfl, _, rfl⟩)
    · repeat constructor
    · repeat constructor
    rintro _ _ ⟨k, r4, h4, rfl, rfl⟩
    refine sl_nil ⟨.nil, ?_⟩
    refine sa_take 5 rfl rfl (by kernel_rfl) .nil (pu_bd rfl (.cons rfl (.cons rfl .nil)) bi_86 zd_86 rfl) ?_
    refine sa_two 1 6 (by kernel_rfl) rfl rfl ?_ ?_
    · refine sl_load_blk1 rfl rfl rfl ag_67 (by repeat constructor) rfl ?_
      refine sl_nil ⟨.nil, ?_⟩
      refine sa_one 6 (by kernel_rfl) rfl ?_
      refine sl_bsn ([almV ⟨a, k⟩]) rfl rfl (.cons rfl .nil) u_67 sz_86 zs_86 (by decide) rfl rfl rfl (SzI.get (by repeat constructor)) ?_
      refine sl_nil ⟨.nil, ?_⟩
      refine sa_one 7 (by kernel_rfl) rfl ?_
      refine sl_appp rfl rfl rfl rfl u_67 ⟨_, u_67, rfl⟩ el_86 (by repeat constructor) (by repeat constructor) (by simp only [List.length_map, List.length_cons, List.length_nil]; omega) ((by rw [List.map_append]; rfl : _ = (al ++ [Alm.mk a k]).map almV)) (by repeat constructor) (fun v19 => ?_)
      refine sl_nil ⟨.nil, ?_⟩
      first
        | refine sa_take 8 rfl rfl (by kernel_rfl) .nil (pu_fieldAddr_ptr rfl rfl fo_72_0) ?_
        | refine sa_take 8 rfl rfl (by kernel_rfl) .nil (pu_fieldAddr_rp rfl rfl fo_72_0) ?_
        | refine sa_take 8 rfl rfl (by kernel_rfl) .nil (pu_fieldAddr_ref rfl rfl fo_72_0) ?_
      refine sa_one 9 (by kernel_rfl) rfl ?_
      refine sl_stp rfl rfl rfl rfl sz_67 rfl rfl rfl (by repeat constructor) (Nat.le_of_ble_eq_true rfl) ?_
      refine sl_nil ⟨.nil, ?_⟩
      refine sa_done (by kernel_rfl) ?_
      refine sl_region ?_
      first
        | refine sl_inc rfl rfl rfl rfl (by omega) ?_
        | refine sl_add rfl rfl rfl rfl (by constructor <;> omega) ?_
        | refine sl_bin rfl rfl rfl rfl rfl ?_
      refine sl_mv rfl rfl rfl ?_
      refine sl_nil ?_
      refine ⟨_, by omega, _, _, ?_, ?_, j + 1, v19, _, r4, rfl, rfl, rfl, rfl, by omega, many_succ hout (out_alm (st := some r2) (st1 := some r3) (st2 := some r4) h3 h4), by have := (decS_len h3).1; have := (decS_len h4).1; omega, by rw [List.length_append]; simp; omega⟩
      · exact ⟨rfl, by repeat constructor⟩
      · repeat constructor
    refine sl_bsn ([almV ⟨a, k⟩]) rfl rfl (.cons rfl .nil) u_67 sz_86 zs_86 (by decide) rfl rfl rfl (SzI.get (by repeat constructor)) ?_
    refine sl_nil ⟨.nil, ?_⟩
    refine sa_one 1 (by kernel_rfl) rfl ?_
    refine sl_load_blk1 rfl rfl rfl ag_67 (by repeat constructor) rfl ?_
    refine sl_nil ⟨.nil, ?_⟩
    refine sa_one 7 (by kernel_rfl) rfl ?_
    refine sl_appp rfl rfl rfl rfl u_67 ⟨_, u_67, rfl⟩ el_86 (by repeat constructor) (by repeat constructor) (by simp only [List.length_map, List.length_cons, List.length_nil]; omega) ((by rw [List.map_append]; rfl : _ = (al ++ [Alm.mk a k]).map almV)) (by repeat constructor) (fun v19 => ?_)
    refine sl_nil ⟨.nil, ?_⟩
    first
      | refine sa_take 8 rfl rfl (by kernel_rfl) .nil (pu_fieldAddr_ptr rfl rfl fo_72_0) ?_
      | refine sa_take 8 rfl rfl (by kernel_rfl) .nil (pu_fieldAddr_rp rfl rfl fo_72_0) ?_
      | refine sa_take 8 rfl rfl (by kernel_rfl) .nil (pu_fieldAddr_ref rfl rfl fo_72_0) ?_
    refine sa_one 9 (by kernel_rfl) rfl ?_
    refine sl_stp rfl rfl rfl rfl sz_67 rfl rfl rfl (by repeat constructor) (Nat.le_of_ble_eq_true rfl) ?_
    refine sl_nil ⟨.nil, ?_⟩
    refine sa_done (by kernel_rfl) ?_
    refine sl_region ?_
    first
      | refine sl_inc rfl rfl rfl rfl (by omega) ?_
      | refine sl_add rfl rfl rfl rfl (by constructor <;> omega) ?_
      | refine sl_bin rfl rfl rfl rfl rfl ?_
    refine sl_mv rfl rfl rfl ?_
    refine sl_nil ?_
    refine ⟨_, by omega, _, _, ?_, ?_, j + 1, v19, _, r4, rfl, rfl, rfl, rfl, by omega, many_succ hout (out_alm (st := some r2) (st1 := some r3) (st2 := some r4) h3 h4), by have := (decS_len h3).1; have := (decS_len h4).1; omega, by rw [List.length_append]; simp; omega⟩
    · exact ⟨rfl, by repeat constructor⟩
    · repeat constructor
  have hj1 : j = n := by have := of_decide_eq_false hj; omega
  subst hj1
  have o1 : Out decAl (some l) al (some r2) := al_good hc hout
  refine sw_exit ?_
  refine sw_seq ?_
  refine sl_region ?_
  refine sl_mv rfl rfl rfl ?_
  refine sl_callf rfl rfl cal_75 (rbool_ok q r2 (.blk b3 [.own v (al.map almV), .val (.bool false), .val (.bool false), .val (.int .i64 0), .val (.int .i64 0), .fix []] :: .spare v 2 :: .blk b2 [.fix [], .val (.bool false), .val (.bool false), .val (.int .i64 0), .val (.int .i64 0), .fix []] :: σ)) ?_ ?_ ?_ (fun _ _ h => by obtain ⟨h1, rfl, r, rfl⟩ := h; exact ⟨rfl, _, (by repeat constructor), sum_bad_e o1 h1, rfl, _, rfl⟩)
  · repeat constructor
  · repeat constructor
  rintro _ _ ⟨e, s2, h2, rfl, rfl⟩
  first
    | refine sl_fieldAddr_ptr rfl rfl rfl fo_72_1 ?_
    | refine sl_fieldAddr_rp rfl rfl rfl fo_72_1 ?_
    | refine sl_fieldAddr_ref rfl rfl rfl fo_72_1 ?_
  refine sl_stp rfl rfl rfl rfl sz_4 rfl rfl rfl (by repeat constructor) (Nat.le_of_ble_eq_true rfl) ?_
  refine sl_nil ?_
  refine sw_seq ?_
  refine sl_region ?_
  refine sl_mv rfl rfl rfl ?_
  refine sl_callf rfl rfl cal_102 (rival_ok q s2 (.blk b3 [.own v (al.map almV), .val (boolV e), .val (.bool false), .val (.int .i64 0), .val (.int .i64 0), .fix []] :: .spare v 2 :: .blk b2 [.fix [], .val (.bool false), .val (.bool false), .val (.int .i64 0), .val (.int .i64 0), .fix []] :: σ)) ?_ ?_ ?_ (fun _ _ h => by obtain ⟨h1, rfl, r, rfl⟩ := h; exact ⟨rfl, _, (by repeat constructor), sum_bad_v o1 h2 h1, rfl, _, rfl⟩)
  · repeat constructor
  · repeat constructor
  rintro _ _ ⟨i, s3, h3, rfl, rfl⟩
  have hs3 : s3.length ≤ l.length := by have := decB_len h2; have := decV_len h3; omega
  first
    | refine sl_fieldAddr_ptr rfl rfl rfl fo_72_2 ?_
    | refine sl_fieldAddr_rp rfl rfl rfl fo_72_2 ?_
    | refine sl_fieldAddr_ref rfl rfl rfl fo_72_2 ?_
  refine sl_stp rfl rfl rfl rfl sz_69 rfl rfl rfl (by repeat constructor) (Nat.le_of_ble_eq_true rfl) ?_
  refine sl_nil ?_
  refine sw_seq ?_
  refine sw_seq ?_
  refine sl_region ?_
  refine sl_mv rfl rfl rfl ?_
  refine sl_callf rfl rfl cal_100 (rcount_ok q s3 (.blk b3 [.own v (al.map almV), .val (boolV e), .val (.bool i.some), .val (.int .i64 i.lo), .val (.int .i64 i.hi), .fix []] :: .spare v 2 :: .blk b2 [.fix [], .val (.bool false), .val (.bool false), .val (.int .i64 0), .val (.int .i64 0), .fix []] :: σ) (Nat.le_trans hs3 hl)) ?_ ?_ ?_ (fun _ _ h => by obtain ⟨h1, rfl, r, rfl⟩ := h; exact ⟨rfl, _, (by repeat constructor), sum_bad_ml o1 h2 h3 (ml_bad h1), rfl, _, rfl⟩)
  · repeat constructor
  · repeat constructor
  rintro _ _ ⟨n2, s4, hc2, rfl, rfl⟩
  have hr4 : s4.length ≤ l.length := Nat.le_trans (decC_inv hc2).2.2 hs3
  have hn2 : n2 ≤ s4.length := (decC_inv hc2).2.1
  refine sl_mv rfl rfl rfl ?_
  refine sl_nil ?_
  refine sw_block ?_
  refine sw_less (σ' := .blk b3 [.own v (al.map almV), .val (boolV e), .val (.bool i.some), .val (.int .i64 i.lo), .val (.int .i64 i.hi), .fix []] :: rd q s4 false :: .spare v 2 :: .blk b2 [.fix [], .val (.bool false), .val (.bool false), .val (.int .i64 0), .val (.int .i64 0), .fix []] :: σ) (by repeat constructor) ?_
  refine sw_own_blk (i := 5) (sz := 4) rfl (fun e1 => ?_)
  refine sw_loopw (fun nX sX δX σX => ∃ (j2 : Nat) (v5 : Value) (ml : List Nmd) (s5 : List UInt8), (n2 - j2) = nX ∧ sX = ⟨45, (.cons 0 (.ptr q 0) (.cons 2 (.ptr b2 0) (.cons 3 (.ptr b3 0) (.cons 29 (.val (.int .i64 (n2 : Int))) (.cons 30 (.val (.int .i64 (j2 : Int))) .nil)))))⟩ ∧ δX = [] ∧ σX = rd q s5 false :: .blk b3 [.own v (al.map almV), .val (boolV e), .val (.bool i.some), .val (.int .i64 i.lo), .val (.int .i64 i.hi), .own v5 (ml.map nmdV)] :: .spare v5 4 :: .spare v 2 :: .blk b2 [.fix [], .val (.bool false), .val (.bool false), .val (.int .i64 0), .val (.int .i64 0), .fix []] :: σ ∧ (j2 ≤ n2) ∧ (Out (decMany decM j2) (some s4) ml (some s5)) ∧ (s5.length ≤ l.length) ∧ (ml.length ≤ j2)) ?_ ?_
  · refine ⟨_, _, _, ?_, ?_, 0, e1, [], s4, rfl, rfl, rfl, rfl, Nat.zero_le _, many_zero s4, hr4, Nat.le_refl _⟩
    · exact ⟨rfl, by repeat constructor⟩
    · repeat constructor
  rintro nX sX δX σX ⟨j2, v5, ml, s5, rfl, rfl, rfl, rfl, hj0', hout2, hs5, hml⟩
  refine sw_seq ?_
  refine sl_region ?_
  refine sl_bin rfl rfl rfl rfl rfl ?_
  refine sl_nil ?_
  refine sw_seq ?_
  refine sw_cond rfl (fun hj => ?_) (fun hj => ?_)
  · have hj1 : j2 < n2 := by have := of_decide_eq_true hj; omega
    refine sw_skip ?_
    refine sw_seq ?_
    refine sw_block ?_
    refine sw_seq ?_
    refine sl_region ?_
    refine sl_mv rfl rfl rfl ?_
    refine sl_callf rfl rfl cal_71 (rtext_ok q s5 (.blk b3 [.own v (al.map almV), .val (boolV e), .val (.bool i.some), .val (.int .i64 i.lo), .val (.int .i64 i.hi), .own v5 (ml.map nmdV)] :: .spare v5 4 :: .spare v 2 :: .blk b2 [.fix [], .val (.bool false), .val (.bool false), .val (.int .i64 0), .val (.int .i64 0), .fix []] :: σ) (Nat.le_trans hs5 hl)) ?_ ?_ ?_ (fun _ _ h => by obtain ⟨h1, rfl, r, rfl⟩ := h; exact ⟨rfl, _, (by repeat constructor), sum_bad_ml o1 h2 h3 (ml_good hc2 (many_bad hout2 (decM_bad1 h1) hj1)), rfl, _, rfl⟩)
    · repeat constructor
    · repeat constructor
    rintro _ _ ⟨t, s6, h6, rfl, rfl⟩
    refine sl_as rfl rfl rfl ?_
    refine sl_nil ?_
    refine sa_start [] mixed ?_
    first
      | refine sa_take 0 rfl rfl (by kernel_rfl) .nil (pu_fieldAddr_ptr rfl rfl fo_72_3) ?_
      | refine sa_take 0 rfl rfl (by kernel_rfl) .nil (pu_fieldAddr_rp rfl rfl fo_72_3) ?_
      | refine sa_take 0 rfl rfl (by kernel_rfl) .nil (pu_fieldAddr_ref rfl rfl fo_72_3) ?_
    refine sa_take 2 rfl rfl (by kernel_rfl) .nil (pu_mv rfl rfl) ?_
    refine sa_take 3 rfl rfl (by kernel_rfl) .nil (pu_mv rfl rfl) ?_
    refine sa_two 1 4 (by kernel_rfl) rfl rfl ?_ ?_
    · refine sl_load_blk1 rfl rfl rfl ag_70 (by repeat constructor) rfl ?_
      refine sl_nil ⟨.nil, ?_⟩
      refine sa_one 4 (by kernel_rfl) rfl ?_
      refine sl_callf rfl rfl cal_102 (rival_ok q s6 (.blk b3 [.own v (al.map almV), .val (boolV e), .val (.bool i.some), .val (.int .i64 i.lo), .val (.int .i64 i.hi), .own v5 (ml.map nmdV)] :: .spare v5 4 :: .spare v 2 :: .blk b2 [.fix [], .val (.bool false), .val (.bool false), .val (.int .i64 0), .val (.int .i64 0), .fix []] :: σ)) ?_ ?_ ?_ (fun _ _ h => by obtain ⟨h1, rfl, r, rfl⟩ := h; exact ⟨rfl, _, (by repeat constructor), sum_bad_ml o1 h2 h3 (ml_good hc2 (many_bad hout2 (decM_bad2 h6 h1) hj1)), rfl, _, rfl⟩)
      · repeat constructor
      · repeat constructor
      rintro _ _ ⟨i7, s7, h7, rfl, rfl⟩
      refine sl_nil ⟨.nil, ?_⟩
      refine sa_take 5 rfl rfl (by kernel_rfl) .nil (pu_bd rfl (.cons rfl (.cons rfl .nil)) bi_127 zd_127 rfl) ?_
      refine sa_one 6 (by kernel_rfl) rfl ?_
      refine sl_bsn ([nmdV ⟨t, i7⟩]) rfl rfl (.cons rfl .nil) u_70 sz_127 zs_127 (by decide) rfl rfl rfl (SzI.get (by repeat constructor)) ?_
      refine sl_nil ⟨.nil, ?_⟩
      refine sa_one 7 (by kernel_rfl) rfl ?_
      refine sl_appp rfl rfl rfl rfl u_70 ⟨_, u_70, rfl⟩ el_127 (by repeat constructor) (by repeat constructor) (by simp only [List.length_map, List.length_cons, List.length_nil]; omega) ((by rw [List.map_append]; rfl : _ = (ml ++ [Nmd.mk t i7]).map nmdV)) (by repeat constructor) (fun v41 => ?_)
      refine sl_nil ⟨.nil, ?_⟩
      first
        | refine sa_take 8 rfl rfl (by kernel_rfl) .nil (pu_fieldAddr_ptr rfl rfl fo_72_3) ?_
        | refine sa_take 8 rfl rfl (by kernel_rfl) .nil (pu_fieldAddr_rp rfl rfl fo_72_3) ?_
        | refine sa_take 8 rfl rfl (by kernel_rfl) .nil (pu_fieldAddr_ref rfl rfl fo_72_3) ?_
      refine sa_one 9 (by kernel_rfl) rfl ?_
      refine sl_stp rfl rfl rfl rfl sz_70 rfl rfl rfl (by repeat constructor) (Nat.le_of_ble_eq_true rfl) ?_
      refine sl_nil ⟨.nil, ?_⟩
      refine sa_done (by kernel_rfl) ?_
      refine sl_region ?_
      first
        | refine sl_inc rfl rfl rfl rfl (by omega) ?_
        | refine sl_add rfl rfl rfl rfl (by constructor <;> omega) ?_
        | refine sl_bin rfl rfl rfl rfl rfl ?_
      refine sl_mv rfl rfl rfl ?_
      refine sl_nil ?_
      refine ⟨_, by omega, _, _, ?_, ?_, j2 + 1, v41, _, s7, rfl, rfl, rfl, rfl, by omega, many_succ hout2 (out_nmd (st := some s5) (st1 := some s6) (st2 := some s7) h6 h7), by have := decT_len h6; have := decV_len h7; omega, by rw [List.length_append]; simp; omega⟩
      · exact ⟨rfl, by repeat constructor⟩
      · repeat constructor
    refine sl_callf rfl rfl cal_102 (rival_ok q s6 (.blk b3 [.own v (al.map almV), .val (boolV e), .val (.bool i.some), .val (.int .i64 i.lo), .val (.int .i64 i.hi), .own v5 (ml.map nmdV)] :: .spare v5 4 :: .spare v 2 :: .blk b2 [.fix [], .val (.bool false), .val (.bool false), .val (.int .i64 0), .val (.int .i64 0), .fix []] :: σ)) ?_ ?_ ?_ (fun _ _ h => by obtain ⟨h1, rfl, r, rfl⟩ := h; exact ⟨rfl, _, (by repeat constructor), sum_bad_ml o1 h2 h3 (ml_good hc2 (many_bad hout2 (decM_bad2 h6 h1) hj1)), rfl, _, rfl⟩)
    · repeat constructor
    · repeat constructor
    rintro _ _ ⟨i7, s7, h7, rfl, rfl⟩
    refine sl_nil ⟨.nil, ?_⟩
    refine sa_take 5 rfl rfl (by kernel_rfl) .nil (pu_bd rfl (.cons rfl (.cons rfl .nil)) bi_127 zd_127 rfl) ?_
    refine sa_two 1 6 (by kernel_rfl) rfl rfl ?_ ?_
    · refine sl_load_blk1 rfl rfl rfl ag_70 (by repeat constructor) rfl ?_
      refine sl_nil ⟨.nil, ?_⟩
      refine sa_one 6 (by kernel_rfl) rfl ?_
      refine sl_bsn ([nmdV ⟨t, i7⟩]) rfl rfl (.cons rfl .nil) u_70 sz_127 zs_127 (by decide) rfl rfl rfl (SzI.get (by repeat constructor)) ?_
      refine sl_nil ⟨.nil, ?_⟩
      refine sa_one 7 (by kernel_rfl) rfl ?_
      refine sl_appp rfl rfl rfl rfl u_70 ⟨_, u_70, rfl⟩ el_127 (by repeat constructor) (by repeat constructor) (by simp only [List.length_map, List.length_cons, List.length_nil]; omega) ((by rw [List.map_append]; rfl : _ = (ml ++ [Nmd.mk t i7]).map nmdV)) (by repeat constructor) (fun v41 => ?_)
      refine sl_nil ⟨.nil, ?_⟩
      first
        | refine sa_take 8 rfl rfl (by kernel_rfl) .nil (pu_fieldAddr_ptr rfl rfl fo_72_3) ?_
        | refine sa_take 8 rfl rfl (by kernel_rfl) .nil (pu_fieldAddr_rp rfl rfl fo_72_3) ?_
        | refine sa_take 8 rfl rfl (by kernel_rfl) .nil (pu_fieldAddr_ref rfl rfl fo_72_3) ?_
      refine sa_one 9 (by kernel_rfl) rfl ?_
      refine sl_stp rfl rfl rfl rfl sz_70 rfl rfl rfl (by repeat constructor) (Nat.le_of_ble_eq_true rfl) ?_
      refine sl_nil ⟨.nil, ?_⟩
      refine sa_done (by kernel_rfl) ?_
      refine sl_region ?_
      first
        | refine sl_inc rfl rfl rfl rfl (by omega) ?_
        | refine sl_add rfl rfl rfl rfl (by constructor <;> omega) ?_
        | refine sl_bin rfl rfl rfl rfl rfl ?_
      refine sl_mv rfl rfl rfl ?_
      refine sl_nil ?_
      refine ⟨_, by omega, _, _, ?_, ?_, j2 + 1, v41, _, s7, rfl, rfl, rfl, rfl, by omega, many_succ hout2 (out_nmd (st := some s5) (st1 := some s6) (st2 := some s7) h6 h7), by have := decT_len h6; have := decV_len h7; omega, by rw [List.length_append]; simp; omega⟩
      · exact ⟨rfl, by repeat constructor⟩
      · repeat constructor
    refine sl_bsn ([nmdV ⟨t, i7⟩]) rfl rfl (.cons rfl .nil) u_70 sz_127 zs_127 (by decide) rfl rfl rfl (SzI.get (by repeat constructor)) ?_
    refine sl_nil ⟨.nil, ?_⟩
    refine sa_one 1 (by kernel_rfl) rfl ?_
    refine sl_load_blk1 rfl rfl rfl ag_70 (by repeat constructor) rfl ?_
    refine sl_nil ⟨.nil, ?_⟩
    refine sa_one 7 (by kernel_rfl) rfl ?_
    refine sl_appp rfl rfl rfl rfl u_70 ⟨_, u_70, rfl⟩ el_127 (by repeat constructor) (by repeat constructor) (by simp only [List.length_map, List.length_cons, List.length_nil]; omega) ((by rw [List.map_append]; rfl : _ = (ml ++ [Nmd.mk t i7]).map nmdV)) (by repeat constructor) (fun v41 => ?_)
    refine sl_nil ⟨.nil, ?_⟩
    first
      | refine sa_take 8 rfl rfl (by kernel_rfl) .nil (pu_fieldAddr_ptr rfl rfl fo_72_3) ?_
      | refine sa_take 8 rfl rfl (by kernel_rfl) .nil (pu_fieldAddr_rp rfl rfl fo_72_3) ?_
      | refine sa_take 8 rfl rfl (by kernel_rfl) .nil (pu_fieldAddr_ref rfl rfl fo_72_3) ?_
    refine sa_one 9 (by kernel_rfl) rfl ?_
    refine sl_stp rfl rfl rfl rfl sz_70 rfl rfl rfl (by repeat constructor) (Nat.le_of_ble_eq_true rfl) ?_
    refine sl_nil ⟨.nil, ?_⟩
    refine sa_done (by kernel_rfl) ?_
    refine sl_region ?_
    first
      | refine sl_inc rfl rfl rfl rfl (by omega) ?_
      | refine sl_add rfl rfl rfl rfl (by constructor <;> omega) ?_
      | refine sl_bin rfl rfl rfl rfl rfl ?_
    refine sl_mv rfl rfl rfl ?_
    refine sl_nil ?_
    refine ⟨_, by omega, _, _, ?_, ?_, j2 + 1, v41, _, s7, rfl, rfl, rfl, rfl, by omega, many_succ hout2 (out_nmd (st := some s5) (st1 := some s6) (st2 := some s7) h6 h7), by have := decT_len h6; have := decV_len h7; omega, by rw [List.length_append]; simp; omega⟩
    · exact ⟨rfl, by repeat constructor⟩
    · repeat constructor
  have hj1 : j2 = n2 := by have := of_decide_eq_false hj; omega
  subst hj1
  refine sw_exit ?_
  refine sw_seq ?_
  refine sl_region ?_
  first
    | refine sl_load_rpn rfl rfl rfl ag_72 sz_72 (Nat.le_of_ble_eq_true rfl) ?_
    | refine sl_load_blkn rfl rfl rfl ag_72 sz_72 (by repeat constructor) (Nat.le_of_ble_eq_true rfl) ?_
    | refine sl_load_ref rfl rfl rfl ag_72 sz_72 (Nat.le_of_ble_eq_true rfl) ?_
  refine sl_stp rfl rfl rfl rfl sz_72 rfl rfl rfl (by repeat constructor) (Nat.le_of_ble_eq_true rfl) ?_
  refine sl_nil ?_
  refine sw_ret ⟨rfl, _, _, ResD.weak (res_celln rfl rfl ag_72 sz_72 (by repeat constructor) (Nat.le_of_ble_eq_true rfl)) ((Weak.toV rfl) ), ?_, ⟨⟨al, e, i, ml⟩, s5, out_summ (st := some l) (st1 := some r2) (st2 := some s2) (st3 := some s3) (st4 := some s5) o1 h2 h3 (ml_good hc2 hout2), hs5, rfl, rfl⟩⟩
  repeat constructor

end Go.Proofs.Ytioechdfghglhaa

/- Walks: printed by a program of this session out of its script CodeR. -/
namespace Go.Proofs.Ytioechdfghglhaa
set_option linter.unusedVariables false
set_option linter.unusedSimpArgs false
set_option maxRecDepth 4000
set_option maxHeartbeats 4000000
open Go Go.RowKit SL


def GoodS (res : Option (Smy × List UInt8)) (x : D) (xs : List D) : Prop := ∃ v r, res = some (v, r) ∧ x = .val (.list (r.map byteV)) ∧ xs = (smyCells v).map D.val
abbrev zeroS : List D := [.fix [], .val (.bool false), .val (.bool false), .val (.int .i64 0), .val (.int .i64 0), .fix []]

theorem cSumm_ok (q b1 b3 : Nat) (l : List UInt8) (σ : List Chunk) (hl : l.length ≤ 100000000) :
    FSpecP Try.prog 84 [.ptr b1 0, .ptr b3 0] (rd q l false :: .blk b1 [.ptr q 0] :: .blk b3 zeroS :: σ)
      (fun d σ' => ∃ x' xs', GoodS (decSumm l) x' xs' ∧ σ' = .blk q [x', .val (.bool false)] :: .blk b1 [.ptr q 0] :: .blk b3 xs' :: σ)
      (fun ch σ' => ch = stop ∧ ∃ x' xs', BadR (decSumm l) x' ∧ σ' = .blk q [x', .val (.bool false)] :: .blk b1 [.ptr q 0] :: .blk b3 xs' :: σ) := by
  refine spec_of_sw Try.func84 rfl ?_
  refine sl_region ?_
  first
    | refine sl_load_rp1 rfl rfl rfl ag_31 rfl ?_
    | refine sl_load_blk1 rfl rfl rfl ag_31 (by repeat constructor) rfl ?_
  refine sl_callf rfl rfl cal_85 (rsumm_ok q l (.blk b1 [.ptr q 0] :: .blk b3 zeroS :: σ) hl) ?_ ?_ ?_ (fun _ _ h => by obtain ⟨h1, rfl, r, rfl⟩ := h; exact ⟨rfl, _, Sub.refl _, rfl, _, _, ⟨h1, _, rfl⟩, rfl⟩)
  · repeat constructor
  · repeat constructor
  rintro _ _ ⟨n, r, hd, hr, rfl, rfl⟩
  refine sl_stp rfl rfl rfl rfl sz_72 rfl rfl rfl (by repeat constructor) (Nat.le_of_ble_eq_true rfl) ?_
  refine sl_nil ?_
  refine ⟨rfl, _, _, res_none rfl, ?_, ⟨_, _, ⟨_, _, hd, rfl, rfl⟩, rfl⟩⟩
  repeat constructor

/-- Summary, of a reader. -/
theorem pSumm_good (q : Nat) (l : List UInt8) (σ : List Chunk) (hl : l.length ≤ 100000000) :
    FSpec Try.prog 45 [.ptr q 0] (rd q l false :: σ) (fun d σ' => d = .val (smyV (rdOf decSumm noSumm (some l)).1) ∧ ∃ c', Rdr q (rdOf decSumm noSumm (some l)).2 c' ∧ σ' = c' :: σ) := by
  refine spec_of_sw Try.func45 rfl ?_
  refine sw_seq ?_
  refine sl_region ?_
  refine sl_bx rfl rfl rfl rfl (fun b1 => ?_)
  refine sl_alloc rfl rfl zd_72 (fun b2 => ?_)
  refine sl_nil ?_
  refine sw_seq ?_
  refine sl_region ?_
  refine sl_alloc rfl rfl zd_72 (fun b3 => ?_)
  refine sl_nil ?_
  refine sw_seq ?_
  refine sw_seq ?_
  refine sl_region ?_
  first
    | refine sl_load_rp1 rfl rfl rfl ag_31 rfl ?_
    | refine sl_load_blk1 rfl rfl rfl ag_31 (by repeat constructor) rfl ?_
  refine sl_mf rfl rfl (.cons rfl (.cons rfl .nil)) ?_
  refine sl_callf rfl rfl cal_60 (try_ok 84 cal_84 q b1 b3 (.val (.list (l.map byteV))) zeroS (GoodS (decSumm l)) (BadR (decSumm l)) (.blk b2 zeroS :: σ) (fun τ => cSumm_ok q b1 b3 l τ hl)) ?_ ?_ ?_ (fun _ _ h => h.elim)
  · repeat constructor
  · repeat constructor
  rintro _ _ ⟨x', xs', ok, rfl, hgood, hbad, rfl⟩
  refine sl_nil ?_
  refine sw_cond rfl (fun hok => ?_) (fun hok => ?_)
  · obtain rfl : ok = true := hok
    obtain ⟨v, r, hd, rfl, rfl⟩ := hgood rfl
    refine sl_region ?_
    first
      | refine sl_load_rpn rfl rfl rfl ag_72 sz_72 (Nat.le_of_ble_eq_true rfl) ?_
      | refine sl_load_blkn rfl rfl rfl ag_72 sz_72 (by repeat constructor) (Nat.le_of_ble_eq_true rfl) ?_
      | refine sl_load_ref rfl rfl rfl ag_72 sz_72 (Nat.le_of_ble_eq_true rfl) ?_
    refine sl_stp rfl rfl rfl rfl sz_72 rfl rfl rfl (by repeat constructor) (Nat.le_of_ble_eq_true rfl) ?_
    refine sl_nil ?_
    refine sw_seq ?_
    refine sl_region ?_
    first
      | refine sl_load_rpn rfl rfl rfl ag_72 sz_72 (Nat.le_of_ble_eq_true rfl) ?_
      | refine sl_load_blkn rfl rfl rfl ag_72 sz_72 (by repeat constructor) (Nat.le_of_ble_eq_true rfl) ?_
      | refine sl_load_ref rfl rfl rfl ag_72 sz_72 (Nat.le_of_ble_eq_true rfl) ?_
    refine sl_stp rfl rfl rfl rfl sz_72 rfl rfl rfl (by repeat constructor) (Nat.le_of_ble_eq_true rfl) ?_
    refine sl_nil ?_
    refine sw_ret ⟨rfl, _, _, ResD.weak (res_celln rfl rfl ag_72 sz_72 (by repeat constructor) (Nat.le_of_ble_eq_true rfl)) ((Weak.toV rfl) ), ?_, by rw [rdOf_good hd]; exact ⟨rfl, _, ⟨rfl, Nat.le_trans (decSumm_len hd) hl⟩, rfl⟩⟩
    repeat constructor
  obtain rfl : ok = false := hok
  obtain ⟨hd, r, rfl⟩ := hbad rfl
  refine sw_skip ?_
  refine sw_seq ?_
  refine sl_region ?_
  first
    | refine sl_load_rpn rfl rfl rfl ag_72 sz_72 (Nat.le_of_ble_eq_true rfl) ?_
    | refine sl_load_blkn rfl rfl rfl ag_72 sz_72 (by repeat constructor) (Nat.le_of_ble_eq_true rfl) ?_
    | refine sl_load_ref rfl rfl rfl ag_72 sz_72 (Nat.le_of_ble_eq_true rfl) ?_
  refine sl_stp rfl rfl rfl rfl sz_72 rfl rfl rfl (by repeat constructor) (Nat.le_of_ble_eq_true rfl) ?_
  refine sl_nil ?_
  refine sw_ret ⟨rfl, _, _, ResD.weak (res_celln rfl rfl ag_72 sz_72 (by repeat constructor) (Nat.le_of_ble_eq_true rfl)) ((Weak.toV rfl) ), ?_, by rw [rdOf_bad hd]; exact ⟨rfl, _, ⟨r, rfl⟩, rfl⟩⟩
  repeat constructor

theorem pSumm_bad (q : Nat) (l : List UInt8) (σ : List Chunk) :
    FSpec Try.prog 45 [.ptr q 0] (rd q l true :: σ) (fun d σ' => d = .val (smyV noSumm) ∧ σ' = rd q l true :: σ) := by
  refine spec_of_sw Try.func45 rfl ?_
  refine sw_seq ?_
  refine sl_region ?_
  refine sl_bx rfl rfl rfl rfl (fun b1 => ?_)
  refine sl_alloc rfl rfl zd_72 (fun b2 => ?_)
  refine sl_nil ?_
  refine sw_seq ?_
  refine sl_region ?_
  refine sl_alloc rfl rfl zd_72 (fun b3 => ?_)
  refine sl_nil ?_
  refine sw_seq ?_
  refine sw_seq ?_
  refine sl_region ?_
  first
    | refine sl_load_rp1 rfl rfl rfl ag_31 rfl ?_
    | refine sl_load_blk1 rfl rfl rfl ag_31 (by repeat constructor) rfl ?_
  refine sl_mf rfl rfl (.cons rfl (.cons rfl .nil)) ?_
  refine sl_callf rfl rfl cal_60 (try_bad (.func 84 [.ptr b1 0, .ptr b3 0]) q (.val (.list (l.map byteV))) (.blk b1 [.ptr q 0] :: .blk b3 zeroS :: .blk b2 zeroS :: σ)) ?_ ?_ ?_ (fun _ _ h => h.elim)
  · repeat constructor
  · repeat constructor
  rintro _ _ ⟨rfl, rfl⟩
  refine sl_nil ?_
  refine sw_false rfl (rfl) ?_
  refine sw_skip ?_
  refine sw_seq ?_
  refine sl_region ?_
  first
    | refine sl_load_rpn rfl rfl rfl ag_72 sz_72 (Nat.le_of_ble_eq_true rfl) ?_
    | refine sl_load_blkn rfl rfl rfl ag_72 sz_72 (by repeat constructor) (Nat.le_of_ble_eq_true rfl) ?_
    | refine sl_load_ref rfl rfl rfl ag_72 sz_72 (Nat.le_of_ble_eq_true rfl) ?_
  refine sl_stp rfl rfl rfl rfl sz_72 rfl rfl rfl (by repeat constructor) (Nat.le_of_ble_eq_true rfl) ?_
  refine sl_nil ?_
  refine sw_ret ⟨rfl, _, _, ResD.weak (res_celln rfl rfl ag_72 sz_72 (by repeat constructor) (Nat.le_of_ble_eq_true rfl)) ((Weak.toV rfl) ), ?_, ⟨rfl, rfl⟩⟩
  repeat constructor

theorem pSumm_ok (q : Nat) (st : Option (List UInt8)) (c : Chunk) (σ : List Chunk) (h : Rdr q st c) :
    FSpec Try.prog 45 [.ptr q 0] (c :: σ) (fun d σ' => d = .val (smyV (rdOf decSumm noSumm st).1) ∧ ∃ c', Rdr q (rdOf decSumm noSumm st).2 c' ∧ σ' = c' :: σ) := by
  cases st with
  | some l => obtain ⟨rfl, hl⟩ := h; exact pSumm_good q l σ hl
  | none => obtain ⟨r, rfl⟩ := h; exact (pSumm_bad q r σ).mono fun d σ' h => ⟨h.1, _, ⟨r, rfl⟩, h.2⟩

theorem whole_ok (q : Nat) (st : Option (List UInt8)) (c : Chunk) (σ : List Chunk) (h : Rdr q st c) :
    FSpec Try.prog 41 [.ptr q 0] (c :: σ) (fun d σ' => d = .val (i64V (rdOf decI 0 st).1) ∧ ∃ c', Rdr q (rdOf decI 0 st).2 c' ∧ σ' = c' :: σ) := by
  refine spec_of_sw Try.func41 rfl ?_
  refine sw_seq ?_
  refine sl_region ?_
  refine sl_as rfl rfl rfl ?_
  refine sl_nil ?_
  refine sw_seq ?_
  refine sl_region ?_
  refine sl_mv rfl rfl rfl ?_
  refine sl_callf rfl rfl cal_82 (yint_ok q st c σ h) ?_ ?_ ?_ (fun _ _ h => h.elim)
  · repeat constructor
  · repeat constructor
  rintro _ _ ⟨rfl, c2, h2, rfl⟩
  obtain ⟨st2, hst2⟩ : ∃ b, b = (rdOf decI 0 st).2 := ⟨_, rfl⟩
  rw [← hst2] at h2
  rcases st2 with _ | r
  · obtain ⟨r, rfl⟩ := h2
    refine sl_as rfl rfl rfl ?_
    refine sl_nil ?_
    refine sw_seq ?_
    refine sw_seq ?_
    refine sl_region ?_
    refine sl_mv rfl rfl rfl ?_
    refine sl_nc rfl rfl rfl rfl ?_
    first
      | refine sl_fieldAddr_ptr rfl rfl rfl fo_80_1 ?_
      | refine sl_fieldAddr_rp rfl rfl rfl fo_80_1 ?_
      | refine sl_fieldAddr_ref rfl rfl rfl fo_80_1 ?_
    first
      | refine sl_load_rp1 rfl rfl rfl ag_4 rfl ?_
      | refine sl_load_blk1 rfl rfl rfl ag_4 (by repeat constructor) rfl ?_
    refine sl_nil ?_
    refine sw_true rfl (rfl) ?_
    refine sw_seq ?_
    refine sl_region ?_
    refine sl_as rfl rfl rfl ?_
    refine sl_nil ?_
    refine sw_ret ⟨rfl, _, _, res_one rfl rfl, ?_, ⟨by rw [rdOf_none_z hst2.symm]; rfl, _, by rw [← hst2]; exact ⟨r, rfl⟩, rfl⟩⟩
    repeat constructor
  obtain ⟨rfl, hr⟩ := h2
  refine sl_as rfl rfl rfl ?_
  refine sl_nil ?_
  refine sw_seq ?_
  refine sw_seq ?_
  refine sl_region ?_
  refine sl_mv rfl rfl rfl ?_
  refine sl_nc rfl rfl rfl rfl ?_
  first
    | refine sl_fieldAddr_ptr rfl rfl rfl fo_80_1 ?_
    | refine sl_fieldAddr_rp rfl rfl rfl fo_80_1 ?_
    | refine sl_fieldAddr_ref rfl rfl rfl fo_80_1 ?_
  first
    | refine sl_load_rp1 rfl rfl rfl ag_4 rfl ?_
    | refine sl_load_blk1 rfl rfl rfl ag_4 (by repeat constructor) rfl ?_
  refine sl_nil ?_
  refine sw_false rfl (rfl) ?_
  refine sw_skip ?_
  refine sw_seq ?_
  refine sl_region ?_
  refine sl_mv rfl rfl rfl ?_
  refine sl_as rfl rfl rfl ?_
  refine sl_nil ?_
  refine sw_ret ⟨rfl, _, _, res_one rfl rfl, ?_, ⟨rfl, _, by rw [← hst2]; exact ⟨rfl, hr⟩, rfl⟩⟩
  repeat constructor

end Go.Proofs.Ytioechdfghglhaa
