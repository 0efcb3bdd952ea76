/- Merged: the program logic, plain laws and walks (each part's first row says what it is); no conditions of its own. -/
import Derived.Test.YtioechdfghglhaaZ4
import Derived.Test.YtioechdfghglhaaZ3
import Derived.Test.YtioechdfghglhaaZ7
import Derived.Test.YtioechdfghglhaaZ5

/- Walks: printed by a program of this session out of its script ReqE. -/
namespace Go.Proofs.Ytioechdfghglhaa
set_option linter.unusedVariables false
set_option linter.unusedSimpArgs false
set_option maxRecDepth 4000
set_option maxHeartbeats 4000000
open Go Go.RowKit SL



/-- OpenReply reads a reply. -/
theorem qopenrep_ok (b : List UInt8) (σ : List Chunk) (hb : b.length ≤ 1000000) :
    FSpec Try.prog 52 [.val (.list (b.map byteV))] σ (fun d σ' => d = .tup [.val (repV ((openRep b).getD noRep)), .val (.int .i64 (errOf (openRep b)))] ∧ σ' = σ) := by
  refine spec_of_sw Try.func52 rfl ?_
  refine sw_seq ?_
  refine sl_region ?_
  refine sl_alloc rfl rfl zd_97 (fun b2 => ?_)
  refine sl_as rfl rfl rfl ?_
  refine sl_nil ?_
  refine sw_seq ?_
  refine sl_region ?_
  refine sl_mv rfl rfl rfl ?_
  refine sl_callf rfl rfl cal_18 (newReader_ok b (.blk b2 zeroY :: σ) (by omega)) ?_ ?_ ?_ (fun _ _ h => h.elim)
  · repeat constructor
  · repeat constructor
  rintro _ _ ⟨q, rfl, rfl⟩
  refine sl_bd rfl rfl (.cons rfl .nil) bi_133 zd_133 rfl ?_
  refine sl_bx rfl rfl rfl rfl (fun b12 => ?_)
  refine sl_as rfl rfl rfl ?_
  refine sl_nil ?_
  refine sw_seq ?_
  refine sl_region ?_
  refine sl_mv rfl rfl rfl ?_
  refine sl_callf rfl rfl cal_88 (rkind_ok b12 q 0 5 false (some b) (rd q b false) (.blk b2 zeroY :: σ) ⟨rfl, by omega⟩ (by decide)) ?_ ?_ ?_ (fun _ _ h => h.elim)
  · repeat constructor
  · repeat constructor
  rintro _ _ ⟨k, wr1, st1, c1, rfl, o1, h1, rfl⟩
  refine sl_bd rfl rfl (.cons rfl .nil) bi_97 zd_97 rfl ?_
  refine sl_alloc rfl rfl zd_97 (fun b5 => ?_)
  refine sl_stp rfl rfl rfl rfl sz_97 rfl rfl rfl (by repeat constructor) (Nat.le_of_ble_eq_true rfl) ?_
  refine sl_nil ?_
  refine sw_seq ?_
  refine sl_region ?_
  refine sl_mv rfl rfl rfl ?_
  refine sl_callf rfl rfl cal_89 (qsmall_ok b12 q wr1 st1 c1 (.blk b5 [.val (.int .i64 (k : Int)), .val (.int .i64 0), .val (.int .i64 0), .fix [], .val (.str []), .val (.int .i64 0)] :: .blk b2 zeroY :: σ) h1) ?_ ?_ ?_ (fun _ _ h => h.elim)
  · repeat constructor
  · repeat constructor
  rintro _ _ ⟨x2, wr2, st2, c2, rfl, o2, h2, rfl⟩
  refine sl_mv rfl rfl rfl ?_
  refine sl_callf rfl rfl cal_89 (qsmall_ok b12 q wr2 st2 c2 (.blk b5 [.val (.int .i64 (k : Int)), .val (.int .i64 0), .val (.int .i64 0), .fix [], .val (.str []), .val (.int .i64 0)] :: .blk b2 zeroY :: σ) h2) ?_ ?_ ?_ (fun _ _ h => h.elim)
  · repeat constructor
  · repeat constructor
  rintro _ _ ⟨x3, wr3, st3, c3, rfl, o3, h3, rfl⟩
  first
    | refine sl_fieldAddr_ptr rfl rfl rfl fo_97_1 ?_
    | refine sl_fieldAddr_rp rfl rfl rfl fo_97_1 ?_
    | refine sl_fieldAddr_ref rfl rfl rfl fo_97_1 ?_
  refine sl_stp rfl rfl rfl rfl sz_35 rfl rfl rfl (by repeat constructor) (Nat.le_of_ble_eq_true rfl) ?_
  first
    | refine sl_fieldAddr_ptr rfl rfl rfl fo_97_2 ?_
    | refine sl_fieldAddr_rp rfl rfl rfl fo_97_2 ?_
    | refine sl_fieldAddr_ref rfl rfl rfl fo_97_2 ?_
  refine sl_stp rfl rfl rfl rfl sz_3 rfl rfl rfl (by repeat constructor) (Nat.le_of_ble_eq_true rfl) ?_
  refine sl_nil ?_
  refine sw_seq ?_
  refine sl_region ?_
  refine sl_mv rfl rfl rfl ?_
  refine sl_nc rfl rfl rfl rfl ?_
  first
    | refine sl_fieldAddr_ptr rfl rfl rfl fo_133_0 ?_
    | refine sl_fieldAddr_rp rfl rfl rfl fo_133_0 ?_
    | refine sl_fieldAddr_ref rfl rfl rfl fo_133_0 ?_
  first
    | refine sl_load_rp1 rfl rfl rfl ag_31 rfl ?_
    | refine sl_load_blk1 rfl rfl rfl ag_31 (by repeat constructor) rfl ?_
  refine sl_callf rfl rfl cal_33 (pNum_ok q st3 c3 (.blk b12 [.ptr q 0, .val (.bool wr3)] :: .blk b5 [.val (.int .i64 (k : Int)), .val (.int .i64 x2), .val (.int .i64 x3), .fix [], .val (.str []), .val (.int .i64 0)] :: .blk b2 zeroY :: σ) h3) ?_ ?_ ?_ (fun _ _ h => h.elim)
  · repeat constructor
  · repeat constructor
  rintro _ _ ⟨rfl, c4, h4, rfl⟩
  have oc := out_pub (dec := decN 0) (z := 0) wr3 st3
  have hlt := rdOf_lt (st := st3)
  obtain ⟨n, hn⟩ : ∃ b, b = (rdOf (decN 0) 0 st3).1 := ⟨_, rfl⟩
  obtain ⟨st4, hst4⟩ : ∃ b, b = (rdOf (decN 0) 0 st3).2 := ⟨_, rfl⟩
  rw [← hn, ← hst4] at oc
  rw [← hn] at hlt ⊢
  rw [← hst4] at h4
  have hB : ∀ l, eff wr3 st4 = some l → l.length ≤ b.length := out_len (fun _ _ _ h => decN_len h) oc (out_len (fun _ _ _ h => (decS_len h).1) o3 (out_len (fun _ _ _ h => (decS_len h).1) o2 (out_len decK_len o1 (fun l h => by cases h; exact Nat.le_refl _))))
  refine sl_as rfl rfl rfl ?_
  refine sl_nil ?_
  refine sw_seq ?_
  refine sw_cutx (fun sX δX σX => sX = ⟨87, (.cons 2 (.ptr b2 0) (.cons 4 (.ptr b12 0) (.cons 5 (.ptr b5 0) (.cons 6 (.val (u64V n)) .nil))))⟩ ∧ δX = [] ∧ σX = .blk b12 [.ptr q 0, .val (.bool (wr3 || decide (b.length < n)))] :: c4 :: .blk b5 [.val (.int .i64 (k : Int)), .val (.int .i64 x2), .val (.int .i64 x3), .fix [], .val (.str []), .val (.int .i64 0)] :: .blk b2 zeroY :: σ) ?_ ?_
  · refine sl_region ?_
    refine sl_mv rfl rfl rfl ?_
    refine sl_mv rfl rfl rfl ?_
    refine sl_nc rfl rfl rfl rfl ?_
    first
      | refine sl_fieldAddr_ptr rfl rfl rfl fo_133_1 ?_
      | refine sl_fieldAddr_rp rfl rfl rfl fo_133_1 ?_
      | refine sl_fieldAddr_ref rfl rfl rfl fo_133_1 ?_
    first
      | refine sl_load_rp1 rfl rfl rfl ag_4 rfl ?_
      | refine sl_load_blk1 rfl rfl rfl ag_4 (by repeat constructor) rfl ?_
    refine sl_mv rfl rfl rfl ?_
    refine sl_case_at 32 rfl (fun hw => ?_) (fun hw => ?_)
    · have hw1 : wr3 = true := hw
      subst hw1
      refine sl_guard_n rfl rfl rfl hw ?_
      refine sl_guard_n rfl rfl rfl hw ?_
      refine sl_guard_n rfl rfl rfl hw ?_
      refine sl_guard_n rfl rfl rfl hw ?_
      refine sl_guard_n rfl rfl rfl hw ?_
      refine sl_pk_t rfl rfl rfl hw rfl ?_
      refine sl_nc rfl rfl rfl rfl ?_
      first
        | refine sl_fieldAddr_ptr rfl rfl rfl fo_133_1 ?_
        | refine sl_fieldAddr_rp rfl rfl rfl fo_133_1 ?_
        | refine sl_fieldAddr_ref rfl rfl rfl fo_133_1 ?_
      refine sl_stp rfl rfl rfl rfl sz_4 rfl rfl rfl (by repeat constructor) (Nat.le_of_ble_eq_true rfl) ?_
      refine sl_nil ?_
      refine ⟨_, _, ?_, ?_, rfl, rfl, rfl⟩
      · exact ⟨rfl, by repeat constructor⟩
      · repeat constructor
    have hw1 : wr3 = false := hw
    subst hw1
    refine sl_guard_y rfl rfl rfl hw ?_
    refine sl_mv rfl rfl rfl ?_
    refine sl_guard_y rfl rfl rfl hw ?_
    refine sl_mv rfl rfl rfl ?_
    refine sl_guard_y rfl rfl rfl hw ?_
    first
      | refine sl_len rfl rfl rfl ⟨_, u_26⟩ ?_
      | refine sl_len_sl rfl rfl rfl ⟨_, u_26⟩ ?_
      | refine sl_len_w _ rfl rfl rfl ⟨_, u_26⟩ ?_
    refine sl_guard_y rfl rfl rfl hw ?_
    refine sl_conv_int rfl rfl rfl is_3 u_37 ?_
    refine sl_set 36 (.val (.int .u64 (b.length : Int))) (len_u64 (by omega)) ?_
    refine sl_guard_y rfl rfl rfl hw ?_
    refine sl_bin rfl rfl rfl rfl rfl ?_
    refine sl_set 37 (.val (.bool (or false (decide (b.length < n))))) (congrArg (fun z => D.val (.bool z)) (by rw [Bool.false_or]; exact decide_eq_decide.mpr (by constructor <;> intro h <;> omega))) ?_
    refine sl_pk_f rfl rfl rfl hw rfl ?_
    refine sl_nc rfl rfl rfl rfl ?_
    first
      | refine sl_fieldAddr_ptr rfl rfl rfl fo_133_1 ?_
      | refine sl_fieldAddr_rp rfl rfl rfl fo_133_1 ?_
      | refine sl_fieldAddr_ref rfl rfl rfl fo_133_1 ?_
    refine sl_stp rfl rfl rfl rfl sz_4 rfl rfl rfl (by repeat constructor) (Nat.le_of_ble_eq_true rfl) ?_
    refine sl_nil ?_
    refine ⟨_, _, ?_, ?_, rfl, rfl, rfl⟩
    · exact ⟨rfl, by repeat constructor⟩
    · repeat constructor
  rintro sX δX σX ⟨rfl, rfl, rfl⟩
  have o4' : ∀ (al : List Alm) (E : Option (List UInt8)), Out (decMany decA n) (eff (wr3 || decide (b.length < n)) st4) al E → Out decAl (eff wr3 st3) al E := fun al E h => al_count oc hB (by rw [eff_or] at h; exact h)
  have hnb0 : (wr3 || decide (b.length < n)) = false → n ≤ b.length := fun h => by simp at h; omega
  refine sw_seq ?_
  refine sw_seq ?_
  refine sl_region ?_
  refine sl_as rfl rfl rfl ?_
  refine sl_nil ?_
  refine sw_block ?_
  refine sw_less (σ' := .blk b5 [.val (.int .i64 (k : Int)), .val (.int .i64 x2), .val (.int .i64 x3), .fix [], .val (.str []), .val (.int .i64 0)] :: .blk b12 [.ptr q 0, .val (.bool (wr3 || decide (b.length < n)))] :: c4 :: .blk b2 zeroY :: σ) (by repeat constructor) ?_
  refine sw_own_blk (i := 3) (sz := 2) rfl (fun e0 => ?_)
  refine sw_loopw (fun nX sX δX σX => ∃ (j : Nat) (v : Value) (al : List Alm) (wr : Bool) (st : Option (List UInt8)) (c : Chunk), (n - j) = nX ∧ sX = ⟨87, (.cons 2 (.ptr b2 0) (.cons 4 (.ptr b12 0) (.cons 5 (.ptr b5 0) (.cons 6 (.val (u64V n)) (.cons 7 (.val (.int .u64 (j : Int))) .nil)))))⟩ ∧ δX = [] ∧ σX = .blk b12 [.ptr q 0, .val (.bool wr)] :: c :: .blk b5 [.val (.int .i64 (k : Int)), .val (.int .i64 x2), .val (.int .i64 x3), .own v (al.map almV), .val (.str []), .val (.int .i64 0)] :: .spare v 2 :: .blk b2 zeroY :: σ ∧ (j ≤ n) ∧ (Out (decMany decA j) (eff (wr3 || decide (b.length < n)) st4) al (eff wr st)) ∧ (Rdr q st c) ∧ (al.length ≤ j) ∧ (wr = false → n ≤ b.length)) ?_ ?_
  · refine ⟨_, _, _, ?_, ?_, 0, e0, [], _, st4, c4, rfl, rfl, rfl, rfl, Nat.zero_le _, many_zero' _, h4, Nat.le_refl _, hnb0⟩
    · exact ⟨rfl, by repeat constructor⟩
    · repeat constructor
  rintro nX sX δX σX ⟨j, v, al, wr, st, c, rfl, rfl, rfl, rfl, hj0, hout, hrd, hal, hwn⟩
  refine sw_seq ?_
  refine sw_seq ?_
  refine sl_region ?_
  refine sl_mv rfl rfl rfl ?_
  refine sl_mv rfl rfl rfl ?_
  refine sl_bin rfl rfl rfl rfl rfl ?_
  refine sl_mv rfl rfl rfl ?_
  refine sl_case_at 44 rfl (fun hj => ?_) (fun hj => ?_)
  · have hj1 : j < n := by have := of_decide_eq_true hj; omega
    refine sl_guard_y rfl rfl rfl hj ?_
    refine sl_mv rfl rfl rfl ?_
    refine sl_guard_y rfl rfl rfl hj ?_
    refine sl_nc rfl rfl rfl rfl ?_
    refine sl_guard_y rfl rfl rfl hj ?_
    first
      | refine sl_fieldAddr_ptr rfl rfl rfl fo_133_1 ?_
      | refine sl_fieldAddr_rp rfl rfl rfl fo_133_1 ?_
      | refine sl_fieldAddr_ref rfl rfl rfl fo_133_1 ?_
    refine sl_guard_y rfl rfl rfl hj ?_
    first
      | refine sl_load_rp1 rfl rfl rfl ag_4 rfl ?_
      | refine sl_load_blk1 rfl rfl rfl ag_4 (by repeat constructor) rfl ?_
    refine sl_guard_y rfl rfl rfl hj ?_
    refine sl_not rfl rfl rfl ?_
    refine sl_pk_t rfl rfl rfl hj rfl ?_
    refine sl_nil ?_
    refine sw_cond rfl (fun hw => ?_) (fun hw => ?_)
    · have hw1 : wr = false := by simpa using hw
      have hnb := hwn hw1
      refine sw_skip ?_
      refine sw_seq ?_
      refine sw_block ?_
      refine sw_seq ?_
      refine sl_region ?_
      refine sl_mv rfl rfl rfl ?_
      refine sl_callf rfl rfl cal_89 (qsmall_ok b12 q wr st c (.blk b5 [.val (.int .i64 (k : Int)), .val (.int .i64 x2), .val (.int .i64 x3), .own v (al.map almV), .val (.str []), .val (.int .i64 0)] :: .spare v 2 :: .blk b2 zeroY :: σ) hrd) ?_ ?_ ?_ (fun _ _ h => h.elim)
      · repeat constructor
      · repeat constructor
      rintro _ _ ⟨aA, wrA, stA, cA, rfl, oA, hA, rfl⟩
      refine sl_as rfl rfl rfl ?_
      refine sl_nil ?_
      refine sa_start [] mixed ?_
      first
        | refine sa_take 0 rfl rfl (by kernel_rfl) .nil (pu_fieldAddr_ptr rfl rfl fo_97_3) ?_
        | refine sa_take 0 rfl rfl (by kernel_rfl) .nil (pu_fieldAddr_rp rfl rfl fo_97_3) ?_
        | refine sa_take 0 rfl rfl (by kernel_rfl) .nil (pu_fieldAddr_ref rfl rfl fo_97_3) ?_
      refine sa_take 2 rfl rfl (by kernel_rfl) .nil (pu_mv rfl rfl) ?_
      refine sa_take 3 rfl rfl (by kernel_rfl) .nil (pu_mv rfl rfl) ?_
      refine sa_two 1 4 (by kernel_rfl) rfl rfl ?_ ?_
      · refine sl_load_blk1 rfl rfl rfl ag_67 (by repeat constructor) rfl ?_
        refine sl_nil ⟨.nil, ?_⟩
        refine sa_one 4 (by kernel_rfl) rfl ?_
        refine sl_callf rfl rfl cal_89 (qsmall_ok b12 q wrA stA cA (.blk b5 [.val (.int .i64 (k : Int)), .val (.int .i64 x2), .val (.int .i64 x3), .own v (al.map almV), .val (.str []), .val (.int .i64 0)] :: .spare v 2 :: .blk b2 zeroY :: σ) hA) ?_ ?_ ?_ (fun _ _ h => h.elim)
        · repeat constructor
        · repeat constructor
        rintro _ _ ⟨aB, wrB, stB, cB, rfl, oB, hB, rfl⟩
        refine sl_nil ⟨.nil, ?_⟩
        refine sa_take 5 rfl rfl (by kernel_rfl) .nil (pu_bd rfl (.cons rfl (.cons rfl .nil)) bi_86 zd_86 rfl) ?_
        refine sa_one 6 (by kernel_rfl) rfl ?_
        refine sl_bsn ([almV ⟨aA, aB⟩]) rfl rfl (.cons rfl .nil) u_67 sz_86 zs_86 (by decide) rfl rfl rfl (SzI.get (by repeat constructor)) ?_
        refine sl_nil ⟨.nil, ?_⟩
        refine sa_one 7 (by kernel_rfl) rfl ?_
        refine sl_appp rfl rfl rfl rfl u_67 ⟨_, u_67, rfl⟩ el_86 (by repeat constructor) (by repeat constructor) (by simp only [List.length_map, List.length_cons, List.length_nil]; omega) ((by rw [List.map_append]; rfl : _ = (al ++ [Alm.mk aA aB]).map almV)) (by repeat constructor) (fun v62 => ?_)
        refine sl_nil ⟨.nil, ?_⟩
        first
          | refine sa_take 8 rfl rfl (by kernel_rfl) .nil (pu_fieldAddr_ptr rfl rfl fo_97_3) ?_
          | refine sa_take 8 rfl rfl (by kernel_rfl) .nil (pu_fieldAddr_rp rfl rfl fo_97_3) ?_
          | refine sa_take 8 rfl rfl (by kernel_rfl) .nil (pu_fieldAddr_ref rfl rfl fo_97_3) ?_
        refine sa_one 9 (by kernel_rfl) rfl ?_
        refine sl_stp rfl rfl rfl rfl sz_67 rfl rfl rfl (by repeat constructor) (Nat.le_of_ble_eq_true rfl) ?_
        refine sl_nil ⟨.nil, ?_⟩
        refine sa_done (by kernel_rfl) ?_
        refine sl_region ?_
        refine sl_mv rfl rfl rfl ?_
        refine sl_bin rfl rfl rfl rfl rfl ?_
        refine sl_set 52 (.val (.int .u64 ((j + 1 : Nat) : Int))) (congrArg (fun z => D.val (.int .u64 z)) (wrapped_u64 (j + 1) (by omega))) ?_
        refine sl_as rfl rfl rfl ?_
        refine sl_nil ?_
        refine ⟨_, by omega, _, _, ?_, ?_, j + 1, v62, _, wrB, stB, cB, rfl, rfl, rfl, rfl, by omega, many_step hout (out_alm oA oB), hB, by rw [List.length_append]; simp; omega, fun _ => hnb⟩
        · exact ⟨rfl, by repeat constructor⟩
        · repeat constructor
      refine sl_callf rfl rfl cal_89 (qsmall_ok b12 q wrA stA cA (.blk b5 [.val (.int .i64 (k : Int)), .val (.int .i64 x2), .val (.int .i64 x3), .own v (al.map almV), .val (.str []), .val (.int .i64 0)] :: .spare v 2 :: .blk b2 zeroY :: σ) hA) ?_ ?_ ?_ (fun _ _ h => h.elim)
      · repeat constructor
      · repeat constructor
      rintro _ _ ⟨aB, wrB, stB, cB, rfl, oB, hB, rfl⟩
      refine sl_nil ⟨.nil, ?_⟩
      refine sa_take 5 rfl rfl (by kernel_rfl) .nil (pu_bd rfl (.cons rfl (.cons rfl .nil)) bi_86 zd_86 rfl) ?_
      refine sa_two 1 6 (by kernel_rfl) rfl rfl ?_ ?_
      · refine sl_load_blk1 rfl rfl rfl ag_67 (by repeat constructor) rfl ?_
        refine sl_nil ⟨.nil, ?_⟩
        refine sa_one 6 (by kernel_rfl) rfl ?_
        refine sl_bsn ([almV ⟨aA, aB⟩]) rfl rfl (.cons rfl .nil) u_67 sz_86 zs_86 (by decide) rfl rfl rfl (SzI.get (by repeat constructor)) ?_
        refine sl_nil ⟨.nil, ?_⟩
        refine sa_one 7 (by kernel_rfl) rfl ?_
        refine sl_appp rfl rfl rfl rfl u_67 ⟨_, u_67, rfl⟩ el_86 (by repeat constructor) (by repeat constructor) (by simp only [List.length_map, List.length_cons, List.length_nil]; omega) ((by rw [List.map_append]; rfl : _ = (al ++ [Alm.mk aA aB]).map almV)) (by repeat constructor) (fun v62 => ?_)
        refine sl_nil ⟨.nil, ?_⟩
        first
          | refine sa_take 8 rfl rfl (by kernel_rfl) .nil (pu_fieldAddr_ptr rfl rfl fo_97_3) ?_
          | refine sa_take 8 rfl rfl (by kernel_rfl) .nil (pu_fieldAddr_rp rfl rfl fo_97_3) ?_
          | refine sa_take 8 rfl rfl (by kernel_rfl) .nil (pu_fieldAddr_ref rfl rfl fo_97_3) ?_
        refine sa_one 9 (by kernel_rfl) rfl ?_
        refine sl_stp rfl rfl rfl rfl sz_67 rfl rfl rfl (by repeat constructor) (Nat.le_of_ble_eq_true rfl) ?_
        refine sl_nil ⟨.nil, ?_⟩
        refine sa_done (by kernel_rfl) ?_
        refine sl_region ?_
        refine sl_mv rfl rfl rfl ?_
        refine sl_bin rfl rfl rfl rfl rfl ?_
        refine sl_set 52 (.val (.int .u64 ((j + 1 : Nat) : Int))) (congrArg (fun z => D.val (.int .u64 z)) (wrapped_u64 (j + 1) (by omega))) ?_
        refine sl_as rfl rfl rfl ?_
        refine sl_nil ?_
        refine ⟨_, by omega, _, _, ?_, ?_, j + 1, v62, _, wrB, stB, cB, rfl, rfl, rfl, rfl, by omega, many_step hout (out_alm oA oB), hB, by rw [List.length_append]; simp; omega, fun _ => hnb⟩
        · exact ⟨rfl, by repeat constructor⟩
        · repeat constructor
      refine sl_bsn ([almV ⟨aA, aB⟩]) rfl rfl (.cons rfl .nil) u_67 sz_86 zs_86 (by decide) rfl rfl rfl (SzI.get (by repeat constructor)) ?_
      refine sl_nil ⟨.nil, ?_⟩
      refine sa_one 1 (by kernel_rfl) rfl ?_
      refine sl_load_blk1 rfl rfl rfl ag_67 (by repeat constructor) rfl ?_
      refine sl_nil ⟨.nil, ?_⟩
      refine sa_one 7 (by kernel_rfl) rfl ?_
      refine sl_appp rfl rfl rfl rfl u_67 ⟨_, u_67, rfl⟩ el_86 (by repeat constructor) (by repeat constructor) (by simp only [List.length_map, List.length_cons, List.length_nil]; omega) ((by rw [List.map_append]; rfl : _ = (al ++ [Alm.mk aA aB]).map almV)) (by repeat constructor) (fun v62 => ?_)
      refine sl_nil ⟨.nil, ?_⟩
      first
        | refine sa_take 8 rfl rfl (by kernel_rfl) .nil (pu_fieldAddr_ptr rfl rfl fo_97_3) ?_
        | refine sa_take 8 rfl rfl (by kernel_rfl) .nil (pu_fieldAddr_rp rfl rfl fo_97_3) ?_
        | refine sa_take 8 rfl rfl (by kernel_rfl) .nil (pu_fieldAddr_ref rfl rfl fo_97_3) ?_
      refine sa_one 9 (by kernel_rfl) rfl ?_
      refine sl_stp rfl rfl rfl rfl sz_67 rfl rfl rfl (by repeat constructor) (Nat.le_of_ble_eq_true rfl) ?_
      refine sl_nil ⟨.nil, ?_⟩
      refine sa_done (by kernel_rfl) ?_
      refine sl_region ?_
      refine sl_mv rfl rfl rfl ?_
      refine sl_bin rfl rfl rfl rfl rfl ?_
      refine sl_set 52 (.val (.int .u64 ((j + 1 : Nat) : Int))) (congrArg (fun z => D.val (.int .u64 z)) (wrapped_u64 (j + 1) (by omega))) ?_
      refine sl_as rfl rfl rfl ?_
      refine sl_nil ?_
      refine ⟨_, by omega, _, _, ?_, ?_, j + 1, v62, _, wrB, stB, cB, rfl, rfl, rfl, rfl, by omega, many_step hout (out_alm oA oB), hB, by rw [List.length_append]; simp; omega, fun _ => hnb⟩
      · exact ⟨rfl, by repeat constructor⟩
      · repeat constructor
    have hw1 : wr = true := by simpa using hw
    have o4 : Out decAl (eff wr3 st3) al (eff wr st) := o4' al _ (by subst hw1; exact many_fail' hout hj0)
    refine sw_exit ?_
    refine sw_seq ?_
    refine sl_region ?_
    refine sl_mv rfl rfl rfl ?_
    refine sl_nc rfl rfl rfl rfl ?_
    first
      | refine sl_fieldAddr_ptr rfl rfl rfl fo_133_0 ?_
      | refine sl_fieldAddr_rp rfl rfl rfl fo_133_0 ?_
      | refine sl_fieldAddr_ref rfl rfl rfl fo_133_0 ?_
    first
      | refine sl_load_rp1 rfl rfl rfl ag_31 rfl ?_
      | refine sl_load_blk1 rfl rfl rfl ag_31 (by repeat constructor) rfl ?_
    refine sl_callf rfl rfl cal_32 (pText_ok q st c (.blk b12 [.ptr q 0, .val (.bool wr)] :: .blk b5 [.val (.int .i64 (k : Int)), .val (.int .i64 x2), .val (.int .i64 x3), .own v (al.map almV), .val (.str []), .val (.int .i64 0)] :: .spare v 2 :: .blk b2 zeroY :: σ) hrd) ?_ ?_ ?_ (fun _ _ h => h.elim)
    · repeat constructor
    · repeat constructor
    rintro _ _ ⟨rfl, c7, h7, rfl⟩
    have o5 := out_pub (dec := decT) (z := []) wr st
    obtain ⟨x5, hx5⟩ : ∃ b, b = (rdOf decT [] st).1 := ⟨_, rfl⟩
    obtain ⟨st7, hst7⟩ : ∃ b, b = (rdOf decT [] st).2 := ⟨_, rfl⟩
    rw [← hx5, ← hst7] at o5
    rw [← hst7] at h7
    rw [← hx5]
    first
      | refine sl_fieldAddr_ptr rfl rfl rfl fo_97_4 ?_
      | refine sl_fieldAddr_rp rfl rfl rfl fo_97_4 ?_
      | refine sl_fieldAddr_ref rfl rfl rfl fo_97_4 ?_
    refine sl_stp rfl rfl rfl rfl sz_9 rfl rfl rfl (by repeat constructor) (Nat.le_of_ble_eq_true rfl) ?_
    refine sl_nil ?_
    refine sw_seq ?_
    refine sl_region ?_
    refine sl_mv rfl rfl rfl ?_
    refine sl_callf rfl rfl cal_89 (qsmall_ok b12 q wr st7 c7 (.blk b5 [.val (.int .i64 (k : Int)), .val (.int .i64 x2), .val (.int .i64 x3), .own v (al.map almV), .val (strV x5), .val (.int .i64 0)] :: .spare v 2 :: .blk b2 zeroY :: σ) h7) ?_ ?_ ?_ (fun _ _ h => h.elim)
    · repeat constructor
    · repeat constructor
    rintro _ _ ⟨n6, wr8, st8, c8, rfl, o6, h8, rfl⟩
    have oo := out_repK o1 o2 o3 o4 o5 o6
    first
      | refine sl_fieldAddr_ptr rfl rfl rfl fo_97_5 ?_
      | refine sl_fieldAddr_rp rfl rfl rfl fo_97_5 ?_
      | refine sl_fieldAddr_ref rfl rfl rfl fo_97_5 ?_
    refine sl_stp rfl rfl rfl rfl sz_3 rfl rfl rfl (by repeat constructor) (Nat.le_of_ble_eq_true rfl) ?_
    refine sl_nil ?_
    refine sw_seq ?_
    refine sw_seq ?_
    refine sl_region ?_
    refine sl_mv rfl rfl rfl ?_
    refine sl_nc rfl rfl rfl rfl ?_
    first
      | refine sl_fieldAddr_ptr rfl rfl rfl fo_133_1 ?_
      | refine sl_fieldAddr_rp rfl rfl rfl fo_133_1 ?_
      | refine sl_fieldAddr_ref rfl rfl rfl fo_133_1 ?_
    first
      | refine sl_load_rp1 rfl rfl rfl ag_4 rfl ?_
      | refine sl_load_blk1 rfl rfl rfl ag_4 (by repeat constructor) rfl ?_
    refine sl_mv rfl rfl rfl ?_
    refine sl_case_at 77 rfl (fun hw8 => ?_) (fun hw8 => ?_)
    · have hw81 : wr8 = true := hw8
      subst hw81
      refine sl_guard_n rfl rfl rfl hw8 ?_
      refine sl_guard_n rfl rfl rfl hw8 ?_
      refine sl_guard_n rfl rfl rfl hw8 ?_
      refine sl_guard_n rfl rfl rfl hw8 ?_
      refine sl_guard_n rfl rfl rfl hw8 ?_
      refine sl_guard_n rfl rfl rfl hw8 ?_
      refine sl_pk_t rfl rfl rfl hw8 rfl ?_
      refine sl_nil ?_
      refine sw_true rfl (rfl) ?_
      refine sw_seq ?_
      refine sl_region ?_
      refine sl_bd rfl rfl .nil bi_97 zd_97 rfl ?_
      refine sl_stp rfl rfl rfl rfl sz_97 rfl rfl rfl (by repeat constructor) (Nat.le_of_ble_eq_true rfl) ?_
      refine sl_as rfl rfl rfl ?_
      refine sl_nil ?_
      refine sw_ret ⟨rfl, _, _, ResD.weaks (ds' := [.val (repV noRep), .val (.int .i64 80)]) (res_mix (rs := [.cell 2 97, .tmp 3]) rfl (by decide) (.celln rfl ag_97 sz_97 (by repeat constructor) (Nat.le_of_ble_eq_true rfl) (.tmp rfl .nil))) (by repeat constructor), ?_, by rw [openRepK, whole_bad (ok := fun _ => True) oo (.inl eff_wrong)]; exact ⟨rfl, rfl⟩⟩
      repeat constructor
    have hw81 : wr8 = false := hw8
    subst hw81
    refine sl_guard_y rfl rfl rfl hw8 ?_
    refine sl_mv rfl rfl rfl ?_
    refine sl_guard_y rfl rfl rfl hw8 ?_
    refine sl_nc rfl rfl rfl rfl ?_
    refine sl_guard_y rfl rfl rfl hw8 ?_
    first
      | refine sl_fieldAddr_ptr rfl rfl rfl fo_133_0 ?_
      | refine sl_fieldAddr_rp rfl rfl rfl fo_133_0 ?_
      | refine sl_fieldAddr_ref rfl rfl rfl fo_133_0 ?_
    refine sl_guard_y rfl rfl rfl hw8 ?_
    first
      | refine sl_load_rp1 rfl rfl rfl ag_31 rfl ?_
      | refine sl_load_blk1 rfl rfl rfl ag_31 (by repeat constructor) rfl ?_
    refine sl_guard_y rfl rfl rfl hw8 ?_
    refine sl_callf rfl rfl cal_21 (done_ok q st8 c8 (.blk b12 [.ptr q 0, .val (.bool false)] :: .blk b5 [.val (.int .i64 (k : Int)), .val (.int .i64 x2), .val (.int .i64 x3), .own v (al.map almV), .val (strV x5), .val (.int .i64 n6)] :: .spare v 2 :: .blk b2 zeroY :: σ) h8) ?_ ?_ ?_ (fun _ _ h => h.elim)
    · repeat constructor
    · repeat constructor
    rintro _ _ ⟨rfl, rfl⟩
    refine sl_guard_y rfl rfl rfl hw8 ?_
    refine sl_bin rfl rfl rfl rfl rfl ?_
    refine sl_pk_f rfl rfl rfl hw8 rfl ?_
    refine sl_nil ?_
    refine sw_cond rfl (fun he => ?_) (fun he => ?_)
    · refine sw_seq ?_
      refine sl_region ?_
      refine sl_bd rfl rfl .nil bi_97 zd_97 rfl ?_
      refine sl_stp rfl rfl rfl rfl sz_97 rfl rfl rfl (by repeat constructor) (Nat.le_of_ble_eq_true rfl) ?_
      refine sl_as rfl rfl rfl ?_
      refine sl_nil ?_
      refine sw_ret ⟨rfl, _, _, ResD.weaks (ds' := [.val (repV noRep), .val (.int .i64 80)]) (res_mix (rs := [.cell 2 97, .tmp 3]) rfl (by decide) (.celln rfl ag_97 sz_97 (by repeat constructor) (Nat.le_of_ble_eq_true rfl) (.tmp rfl .nil))) (by repeat constructor), ?_, by rw [openRepK, whole_bad (ok := fun _ => True) oo (.inl (doneV_ne he))]; exact ⟨rfl, rfl⟩⟩
      repeat constructor
    have he2 := doneV_eq he
    subst he2
    refine sw_skip ?_
    refine sw_seq ?_
    refine sl_region ?_
    first
      | refine sl_load_rpn rfl rfl rfl ag_97 sz_97 (Nat.le_of_ble_eq_true rfl) ?_
      | refine sl_load_blkn rfl rfl rfl ag_97 sz_97 (by repeat constructor) (Nat.le_of_ble_eq_true rfl) ?_
      | refine sl_load_ref rfl rfl rfl ag_97 sz_97 (Nat.le_of_ble_eq_true rfl) ?_
    refine sl_stp rfl rfl rfl rfl sz_97 rfl rfl rfl (by repeat constructor) (Nat.le_of_ble_eq_true rfl) ?_
    refine sl_as rfl rfl rfl ?_
    refine sl_nil ?_
    refine sw_ret ⟨rfl, _, _, ResD.weaks (ds' := [.val (repV ⟨k, x2, x3, al, x5, n6⟩), .val (.int .i64 0)]) (res_mix (rs := [.cell 2 97, .tmp 3]) rfl (by decide) (.celln rfl ag_97 sz_97 (by repeat constructor) (Nat.le_of_ble_eq_true rfl) (.tmp rfl .nil))) (by repeat constructor), ?_, by rw [openRepK, whole_good (ok := fun _ => True) oo trivial]; exact ⟨rfl, rfl⟩⟩
    repeat constructor
  refine sl_guard_n rfl rfl rfl hj ?_
  refine sl_guard_n rfl rfl rfl hj ?_
  refine sl_guard_n rfl rfl rfl hj ?_
  refine sl_guard_n rfl rfl rfl hj ?_
  refine sl_guard_n rfl rfl rfl hj ?_
  refine sl_pk_f rfl rfl rfl hj rfl ?_
  refine sl_nil ?_
  refine sw_false rfl (rfl) ?_
  have hj1 : j = n := by have := of_decide_eq_false hj; omega
  subst hj1
  have o4 : Out decAl (eff wr3 st3) al (eff wr st) := o4' al _ hout
  refine sw_exit ?_
  refine sw_seq ?_
  refine sl_region ?_
  refine sl_mv rfl rfl rfl ?_
  refine sl_nc rfl rfl rfl rfl ?_
  first
    | refine sl_fieldAddr_ptr rfl rfl rfl fo_133_0 ?_
    | refine sl_fieldAddr_rp rfl rfl rfl fo_133_0 ?_
    | refine sl_fieldAddr_ref rfl rfl rfl fo_133_0 ?_
  first
    | refine sl_load_rp1 rfl rfl rfl ag_31 rfl ?_
    | refine sl_load_blk1 rfl rfl rfl ag_31 (by repeat constructor) rfl ?_
  refine sl_callf rfl rfl cal_32 (pText_ok q st c (.blk b12 [.ptr q 0, .val (.bool wr)] :: .blk b5 [.val (.int .i64 (k : Int)), .val (.int .i64 x2), .val (.int .i64 x3), .own v (al.map almV), .val (.str []), .val (.int .i64 0)] :: .spare v 2 :: .blk b2 zeroY :: σ) hrd) ?_ ?_ ?_ (fun _ _ h => h.elim)
  · repeat constructor
  · repeat constructor
  rintro _ _ ⟨rfl, c7, h7, rfl⟩
  have o5 := out_pub (dec := decT) (z := []) wr st
  obtain ⟨x5, hx5⟩ : ∃ b, b = (rdOf decT [] st).1 := ⟨_, rfl⟩
  obtain ⟨st7, hst7⟩ : ∃ b, b = (rdOf decT [] st).2 := ⟨_, rfl⟩
  rw [← hx5, ← hst7] at o5
  rw [← hst7] at h7
  rw [← hx5]
  first
    | refine sl_fieldAddr_ptr rfl rfl rfl fo_97_4 ?_
    | refine sl_fieldAddr_rp rfl rfl rfl fo_97_4 ?_
    | refine sl_fieldAddr_ref rfl rfl rfl fo_97_4 ?_
  refine sl_stp rfl rfl rfl rfl sz_9 rfl rfl rfl (by repeat constructor) (Nat.le_of_ble_eq_true rfl) ?_
  refine sl_nil ?_
  refine sw_seq ?_
  refine sl_region ?_
  refine sl_mv rfl rfl rfl ?_
  refine sl_callf rfl rfl cal_89 (qsmall_ok b12 q wr st7 c7 (.blk b5 [.val (.int .i64 (k : Int)), .val (.int .i64 x2), .val (.int .i64 x3), .own v (al.map almV), .val (strV x5), .val (.int .i64 0)] :: .spare v 2 :: .blk b2 zeroY :: σ) h7) ?_ ?_ ?_ (fun _ _ h => h.elim)
  · repeat constructor
  · repeat constructor
  rintro _ _ ⟨n6, wr8, st8, c8, rfl, o6, h8, rfl⟩
  have oo := out_repK o1 o2 o3 o4 o5 o6
  first
    | refine sl_fieldAddr_ptr rfl rfl rfl fo_97_5 ?_
    | refine sl_fieldAddr_rp rfl rfl rfl fo_97_5 ?_
    | refine sl_fieldAddr_ref rfl rfl rfl fo_97_5 ?_
  refine sl_stp rfl rfl rfl rfl sz_3 rfl rfl rfl (by repeat constructor) (Nat.le_of_ble_eq_true rfl) ?_
  refine sl_nil ?_
  refine sw_seq ?_
  refine sw_seq ?_
  refine sl_region ?_
  refine sl_mv rfl rfl rfl ?_
  refine sl_nc rfl rfl rfl rfl ?_
  first
    | refine sl_fieldAddr_ptr rfl rfl rfl fo_133_1 ?_
    | refine sl_fieldAddr_rp rfl rfl rfl fo_133_1 ?_
    | refine sl_fieldAddr_ref rfl rfl rfl fo_133_1 ?_
  first
    | refine sl_load_rp1 rfl rfl rfl ag_4 rfl ?_
    | refine sl_load_blk1 rfl rfl rfl ag_4 (by repeat constructor) rfl ?_
  refine sl_mv rfl rfl rfl ?_
  refine sl_case_at 77 rfl (fun hw8 => ?_) (fun hw8 => ?_)
  · have hw81 : wr8 = true := hw8
    subst hw81
    refine sl_guard_n rfl rfl rfl hw8 ?_
    refine sl_guard_n rfl rfl rfl hw8 ?_
    refine sl_guard_n rfl rfl rfl hw8 ?_
    refine sl_guard_n rfl rfl rfl hw8 ?_
    refine sl_guard_n rfl rfl rfl hw8 ?_
    refine sl_guard_n rfl rfl rfl hw8 ?_
    refine sl_pk_t rfl rfl rfl hw8 rfl ?_
    refine sl_nil ?_
    refine sw_true rfl (rfl) ?_
    refine sw_seq ?_
    refine sl_region ?_
    refine sl_bd rfl rfl .nil bi_97 zd_97 rfl ?_
    refine sl_stp rfl rfl rfl rfl sz_97 rfl rfl rfl (by repeat constructor) (Nat.le_of_ble_eq_true rfl) ?_
    refine sl_as rfl rfl rfl ?_
    refine sl_nil ?_
    refine sw_ret ⟨rfl, _, _, ResD.weaks (ds' := [.val (repV noRep), .val (.int .i64 80)]) (res_mix (rs := [.cell 2 97, .tmp 3]) rfl (by decide) (.celln rfl ag_97 sz_97 (by repeat constructor) (Nat.le_of_ble_eq_true rfl) (.tmp rfl .nil))) (by repeat constructor), ?_, by rw [openRepK, whole_bad (ok := fun _ => True) oo (.inl eff_wrong)]; exact ⟨rfl, rfl⟩⟩
    repeat constructor
  have hw81 : wr8 = false := hw8
  subst hw81
  refine sl_guard_y rfl rfl rfl hw8 ?_
  refine sl_mv rfl rfl rfl ?_
  refine sl_guard_y rfl rfl rfl hw8 ?_
  refine sl_nc rfl rfl rfl rfl ?_
  refine sl_guard_y rfl rfl rfl hw8 ?_
  first
    | refine sl_fieldAddr_ptr rfl rfl rfl fo_133_0 ?_
    | refine sl_fieldAddr_rp rfl rfl rfl fo_133_0 ?_
    | refine sl_fieldAddr_ref rfl rfl rfl fo_133_0 ?_
  refine sl_guard_y rfl rfl rfl hw8 ?_
  first
    | refine sl_load_rp1 rfl rfl rfl ag_31 rfl ?_
    | refine sl_load_blk1 rfl rfl rfl ag_31 (by repeat constructor) rfl ?_
  refine sl_guard_y rfl rfl rfl hw8 ?_
  refine sl_callf rfl rfl cal_21 (done_ok q st8 c8 (.blk b12 [.ptr q 0, .val (.bool false)] :: .blk b5 [.val (.int .i64 (k : Int)), .val (.int .i64 x2), .val (.int .i64 x3), .own v (al.map almV), .val (strV x5), .val (.int .i64 n6)] :: .spare v 2 :: .blk b2 zeroY :: σ) h8) ?_ ?_ ?_ (fun _ _ h => h.elim)
  · repeat constructor
  · repeat constructor
  rintro _ _ ⟨rfl, rfl⟩
  refine sl_guard_y rfl rfl rfl hw8 ?_
  refine sl_bin rfl rfl rfl rfl rfl ?_
  refine sl_pk_f rfl rfl rfl hw8 rfl ?_
  refine sl_nil ?_
  refine sw_cond rfl (fun he => ?_) (fun he => ?_)
  · refine sw_seq ?_
    refine sl_region ?_
    refine sl_bd rfl rfl .nil bi_97 zd_97 rfl ?_
    refine sl_stp rfl rfl rfl rfl sz_97 rfl rfl rfl (by repeat constructor) (Nat.le_of_ble_eq_true rfl) ?_
    refine sl_as rfl rfl rfl ?_
    refine sl_nil ?_
    refine sw_ret ⟨rfl, _, _, ResD.weaks (ds' := [.val (repV noRep), .val (.int .i64 80)]) (res_mix (rs := [.cell 2 97, .tmp 3]) rfl (by decide) (.celln rfl ag_97 sz_97 (by repeat constructor) (Nat.le_of_ble_eq_true rfl) (.tmp rfl .nil))) (by repeat constructor), ?_, by rw [openRepK, whole_bad (ok := fun _ => True) oo (.inl (doneV_ne he))]; exact ⟨rfl, rfl⟩⟩
    repeat constructor
  have he2 := doneV_eq he
  subst he2
  refine sw_skip ?_
  refine sw_seq ?_
  refine sl_region ?_
  first
    | refine sl_load_rpn rfl rfl rfl ag_97 sz_97 (Nat.le_of_ble_eq_true rfl) ?_
    | refine sl_load_blkn rfl rfl rfl ag_97 sz_97 (by repeat constructor) (Nat.le_of_ble_eq_true rfl) ?_
    | refine sl_load_ref rfl rfl rfl ag_97 sz_97 (Nat.le_of_ble_eq_true rfl) ?_
  refine sl_stp rfl rfl rfl rfl sz_97 rfl rfl rfl (by repeat constructor) (Nat.le_of_ble_eq_true rfl) ?_
  refine sl_as rfl rfl rfl ?_
  refine sl_nil ?_
  refine sw_ret ⟨rfl, _, _, ResD.weaks (ds' := [.val (repV ⟨k, x2, x3, al, x5, n6⟩), .val (.int .i64 0)]) (res_mix (rs := [.cell 2 97, .tmp 3]) rfl (by decide) (.celln rfl ag_97 sz_97 (by repeat constructor) (Nat.le_of_ble_eq_true rfl) (.tmp rfl .nil))) (by repeat constructor), ?_, by rw [openRepK, whole_good (ok := fun _ => True) oo trivial]; exact ⟨rfl, rfl⟩⟩
  repeat constructor

end Go.Proofs.Ytioechdfghglhaa

/- Walks: printed by a program of this session out of its script ReqF. -/
namespace Go.Proofs.Ytioechdfghglhaa
set_option linter.unusedVariables false
set_option linter.unusedSimpArgs false
set_option maxRecDepth 4000
set_option maxHeartbeats 4000000
open Go Go.RowKit SL


/-- What is known of requests. -/
theorem known24_ok (σ : List Chunk) : FSpec Try.prog 48 [] σ (fun d σ' => d = .val (.bool true) ∧ σ' = σ) := by
  refine spec_of_sw Try.func48 rfl ?_
  refine sw_seq ?_
  refine sl_region ?_
  refine sl_as rfl rfl rfl ?_
  refine sl_nil ?_
  refine sw_seq ?_
  refine sl_region ?_
  refine sl_bd rfl rfl (.cons rfl (.cons rfl .nil)) bi_89 zd_89 rfl ?_
  refine sl_callf rfl rfl cal_56 (qbytes_ok kReq σ kReq_ok (by decide) (by decide)) ?_ ?_ ?_ (fun _ _ h => h.elim)
  · repeat constructor
  · repeat constructor
  rintro _ _ ⟨rfl, hσ⟩
  have hσ2 := hσ.symm
  subst hσ2
  refine sl_as rfl rfl rfl ?_
  refine sl_nil ?_
  refine sw_seq ?_
  refine sl_region ?_
  refine sl_mv rfl rfl rfl ?_
  refine sl_callf rfl rfl cal_50 (qopen_ok (encReq kReq) σ (by rw [kReq_bytes]; decide)) ?_ ?_ ?_ (fun _ _ h => h.elim)
  · repeat constructor
  · repeat constructor
  rintro _ _ ⟨rfl, hσ⟩
  have hσ2 := hσ.symm
  subst hσ2
  rw [kReq_open]
  refine sl_mv rfl rfl rfl ?_
  refine sl_extract rfl rfl rfl rfl ?_
  refine sl_extract rfl rfl rfl rfl ?_
  refine sl_alloc rfl rfl zd_89 (fun b2 => ?_)
  refine sl_stp rfl rfl rfl rfl sz_89 rfl rfl rfl (by repeat constructor) (Nat.le_of_ble_eq_true rfl) ?_
  refine sl_as rfl rfl rfl ?_
  refine sl_nil ?_
  refine sw_seq ?_
  refine sl_region ?_
  refine sl_callf rfl rfl cal_50 (qopen_ok [] (.blk b2 (rowOf (reqV kReq)) :: σ) (by decide)) ?_ ?_ ?_ (fun _ _ h => h.elim)
  · repeat constructor
  · repeat constructor
  rintro _ _ ⟨rfl, hσ⟩
  have hσ2 := hσ.symm
  subst hσ2
  rw [open_nil]
  refine sl_mv rfl rfl rfl ?_
  refine sl_extract rfl rfl rfl rfl ?_
  refine sl_extract rfl rfl rfl rfl ?_
  refine sl_alloc rfl rfl zd_89 (fun b4 => ?_)
  refine sl_stp rfl rfl rfl rfl sz_89 rfl rfl rfl (by repeat constructor) (Nat.le_of_ble_eq_true rfl) ?_
  refine sl_as rfl rfl rfl ?_
  refine sl_nil ?_
  refine sw_seq ?_
  refine sl_region ?_
  refine sl_bd rfl rfl (.cons rfl (.cons rfl .nil)) bi_86 zd_86 rfl ?_
  refine sl_bsn ([almV ⟨1, 2⟩]) rfl rfl (.cons rfl .nil) u_67 sz_86 zs_86 (by decide) rfl rfl rfl (SzI.get (by repeat constructor)) ?_
  refine sl_bd rfl rfl (.cons rfl (.cons rfl .nil)) bi_97 zd_97 rfl ?_
  refine sl_callf rfl rfl cal_57 (qreply_ok kRep (.blk b4 (rowOf (reqV noReq)) :: .blk b2 (rowOf (reqV kReq)) :: σ) kRep_ok (by decide) (by decide)) ?_ ?_ ?_ (fun _ _ h => h.elim)
  · repeat constructor
  · repeat constructor
  rintro _ _ ⟨rfl, hσ⟩
  have hσ2 := hσ.symm
  subst hσ2
  refine sl_callf rfl rfl cal_52 (qopenrep_ok (encRep kRep) (.blk b4 (rowOf (reqV noReq)) :: .blk b2 (rowOf (reqV kReq)) :: σ) (Nat.le_trans (encRep_len kRep_ok (c := 0) (by decide) (by decide) (by decide)) (by decide))) ?_ ?_ ?_ (fun _ _ h => h.elim)
  · repeat constructor
  · repeat constructor
  rintro _ _ ⟨rfl, hσ⟩
  have hσ2 := hσ.symm
  subst hσ2
  rw [kRep_open]
  refine sl_mv rfl rfl rfl ?_
  refine sl_extract rfl rfl rfl rfl ?_
  refine sl_extract rfl rfl rfl rfl ?_
  refine sl_alloc rfl rfl zd_97 (fun b6 => ?_)
  refine sl_stp rfl rfl rfl rfl sz_97 rfl rfl rfl (by repeat constructor) (Nat.le_of_ble_eq_true rfl) ?_
  refine sl_as rfl rfl rfl ?_
  refine sl_nil ?_
  refine sw_seq ?_
  refine sl_region ?_
  refine sl_mv rfl rfl rfl ?_
  refine sl_bytes_str rfl rfl rfl u_26 u_5 u_9 ?_
  refine sl_str rfl rfl rfl rfl rfl ?_
  refine sl_set 29 (.val (.bool true)) (congrArg (fun l => D.val (.bool (l == [4, 1, 102, 0, 0]))) kReq_bytes) ?_
  refine sl_mv rfl rfl rfl ?_
  refine sl_guard_y rfl rfl rfl (rfl) ?_
  refine sl_mv rfl rfl rfl ?_
  refine sl_guard_y rfl rfl rfl (rfl) ?_
  refine sl_bin rfl rfl rfl rfl rfl ?_
  refine sl_pk_t rfl rfl rfl (rfl) rfl ?_
  refine sl_mv rfl rfl rfl ?_
  refine sl_guard_y rfl rfl rfl (rfl) ?_
  first
    | refine sl_fieldAddr_ptr rfl rfl rfl fo_89_0 ?_
    | refine sl_fieldAddr_rp rfl rfl rfl fo_89_0 ?_
    | refine sl_fieldAddr_ref rfl rfl rfl fo_89_0 ?_
  refine sl_guard_y rfl rfl rfl (rfl) ?_
  first
    | refine sl_load_rp1 rfl rfl rfl ag_3 rfl ?_
    | refine sl_load_blk1 rfl rfl rfl ag_3 (by repeat constructor) rfl ?_
  refine sl_guard_y rfl rfl rfl (rfl) ?_
  refine sl_bin rfl rfl rfl rfl rfl ?_
  refine sl_pk_t rfl rfl rfl (rfl) rfl ?_
  refine sl_mv rfl rfl rfl ?_
  refine sl_guard_y rfl rfl rfl (rfl) ?_
  first
    | refine sl_fieldAddr_ptr rfl rfl rfl fo_89_1 ?_
    | refine sl_fieldAddr_rp rfl rfl rfl fo_89_1 ?_
    | refine sl_fieldAddr_ref rfl rfl rfl fo_89_1 ?_
  refine sl_guard_y rfl rfl rfl (rfl) ?_
  first
    | refine sl_load_rp1 rfl rfl rfl ag_9 rfl ?_
    | refine sl_load_blk1 rfl rfl rfl ag_9 (by repeat constructor) rfl ?_
  refine sl_guard_y rfl rfl rfl (rfl) ?_
  refine sl_str rfl rfl rfl rfl rfl ?_
  refine sl_pk_t rfl rfl rfl (rfl) rfl ?_
  refine sl_mv rfl rfl rfl ?_
  refine sl_guard_y rfl rfl rfl (rfl) ?_
  refine sl_mv rfl rfl rfl ?_
  refine sl_guard_y rfl rfl rfl (rfl) ?_
  refine sl_bin rfl rfl rfl rfl rfl ?_
  refine sl_pk_t rfl rfl rfl (rfl) rfl ?_
  refine sl_mv rfl rfl rfl ?_
  refine sl_guard_y rfl rfl rfl (rfl) ?_
  refine sl_mv rfl rfl rfl ?_
  refine sl_guard_y rfl rfl rfl (rfl) ?_
  refine sl_bin rfl rfl rfl rfl rfl ?_
  refine sl_pk_t rfl rfl rfl (rfl) rfl ?_
  refine sl_mv rfl rfl rfl ?_
  refine sl_guard_y rfl rfl rfl (rfl) ?_
  first
    | refine sl_fieldAddr_ptr rfl rfl rfl fo_97_3 ?_
    | refine sl_fieldAddr_rp rfl rfl rfl fo_97_3 ?_
    | refine sl_fieldAddr_ref rfl rfl rfl fo_97_3 ?_
  refine sl_guard_y rfl rfl rfl (rfl) ?_
  first
    | refine sl_load_rp1 rfl rfl rfl ag_67 rfl ?_
    | refine sl_load_blk1 rfl rfl rfl ag_67 (by repeat constructor) rfl ?_
  refine sl_guard_y rfl rfl rfl (rfl) ?_
  first
    | refine sl_len rfl rfl rfl ⟨_, u_67⟩ ?_
    | refine sl_len_sl rfl rfl rfl ⟨_, u_67⟩ ?_
    | refine sl_len_w _ rfl rfl rfl ⟨_, u_67⟩ ?_
  refine sl_guard_y rfl rfl rfl (rfl) ?_
  refine sl_bin rfl rfl rfl rfl rfl ?_
  refine sl_pk_t rfl rfl rfl (rfl) rfl ?_
  refine sl_as rfl rfl rfl ?_
  refine sl_nil ?_
  refine sw_ret ⟨rfl, _, _, res_one rfl rfl, ?_, ⟨rfl, rfl⟩⟩
  repeat constructor

end Go.Proofs.Ytioechdfghglhaa

/- Walks: printed by a program of this session out of its script ReqG. -/
namespace Go.Proofs.Ytioechdfghglhaa
set_option linter.unusedVariables false
set_option linter.unusedSimpArgs false
set_option maxRecDepth 4000
set_option maxHeartbeats 4000000
open Go Go.RowKit SL



/-- ReqWrites. -/
theorem reqWrites_ok (r : Req) (p : Rep) (hr : ReqOk r) (hp : RepOk p) : FSpec Try.prog 12 [.val (reqV r), .val (repV p)] [] (fun d σ' => d = .val (.bool true) ∧ σ' = []) := by
  refine spec_of_sw Try.func12 rfl ?_
  refine sw_seq ?_
  refine sl_region ?_
  refine sl_bx_imm rfl rfl rfl rfl rfl ?_
  refine sl_bx_imm rfl rfl rfl rfl rfl ?_
  refine sl_as rfl rfl rfl ?_
  refine sl_nil ?_
  refine sw_seq ?_
  refine sw_seq ?_
  refine sl_region ?_
  refine sl_callf rfl rfl cal_48 (known24_ok []) ?_ ?_ ?_ (fun _ _ h => h.elim)
  · repeat constructor
  · repeat constructor
  rintro _ _ ⟨rfl, rfl⟩
  refine sl_not rfl rfl rfl ?_
  refine sl_nil ?_
  refine sw_false rfl (rfl) ?_
  refine sw_skip ?_
  refine sw_seq ?_
  refine sw_seq ?_
  refine sl_region ?_
  first
    | refine sl_fieldAddr_ptr rfl rfl rfl fo_89_1 ?_
    | refine sl_fieldAddr_rp rfl rfl rfl fo_89_1 ?_
    | refine sl_fieldAddr_ref rfl rfl rfl fo_89_1 ?_
  first
    | refine sl_load_rp1 rfl rfl rfl ag_9 rfl ?_
    | refine sl_load_blk1 rfl rfl rfl ag_9 (by repeat constructor) rfl ?_
  refine sl_len_str rfl rfl rfl u_9 ?_
  refine sl_bin rfl rfl rfl rfl rfl ?_
  refine sl_mv rfl rfl rfl ?_
  refine sl_case_at 21 rfl (fun g1 => ?_) (fun g1 => ?_)
  · refine sl_guard_n rfl rfl rfl g1 ?_
    refine sl_guard_n rfl rfl rfl g1 ?_
    refine sl_guard_n rfl rfl rfl g1 ?_
    refine sl_guard_n rfl rfl rfl g1 ?_
    refine sl_pk_t rfl rfl rfl g1 rfl ?_
    refine sl_mv rfl rfl rfl ?_
    refine sl_guard_n rfl rfl rfl (rfl) ?_
    refine sl_guard_n rfl rfl rfl (rfl) ?_
    refine sl_guard_n rfl rfl rfl (rfl) ?_
    refine sl_guard_n rfl rfl rfl (rfl) ?_
    refine sl_pk_t rfl rfl rfl (rfl) rfl ?_
    refine sl_mv rfl rfl rfl ?_
    refine sl_guard_n rfl rfl rfl (rfl) ?_
    refine sl_guard_n rfl rfl rfl (rfl) ?_
    refine sl_guard_n rfl rfl rfl (rfl) ?_
    refine sl_guard_n rfl rfl rfl (rfl) ?_
    refine sl_pk_t rfl rfl rfl (rfl) rfl ?_
    refine sl_nil ?_
    refine sw_true rfl (rfl) ?_
    refine sw_seq ?_
    refine sl_region ?_
    refine sl_as rfl rfl rfl ?_
    refine sl_nil ?_
    refine sw_ret ⟨rfl, _, _, res_one rfl rfl, ?_, ⟨rfl, rfl⟩⟩
    repeat constructor
  refine sl_guard_y rfl rfl rfl g1 ?_
  first
    | refine sl_fieldAddr_ptr rfl rfl rfl fo_89_2 ?_
    | refine sl_fieldAddr_rp rfl rfl rfl fo_89_2 ?_
    | refine sl_fieldAddr_ref rfl rfl rfl fo_89_2 ?_
  refine sl_guard_y rfl rfl rfl g1 ?_
  first
    | refine sl_load_rp1 rfl rfl rfl ag_9 rfl ?_
    | refine sl_load_blk1 rfl rfl rfl ag_9 (by repeat constructor) rfl ?_
  refine sl_guard_y rfl rfl rfl g1 ?_
  refine sl_len_str rfl rfl rfl u_9 ?_
  refine sl_guard_y rfl rfl rfl g1 ?_
  refine sl_bin rfl rfl rfl rfl rfl ?_
  refine sl_pk_f rfl rfl rfl g1 rfl ?_
  refine sl_mv rfl rfl rfl ?_
  refine sl_case_at 27 rfl (fun g2 => ?_) (fun g2 => ?_)
  · refine sl_guard_n rfl rfl rfl g2 ?_
    refine sl_guard_n rfl rfl rfl g2 ?_
    refine sl_guard_n rfl rfl rfl g2 ?_
    refine sl_guard_n rfl rfl rfl g2 ?_
    refine sl_pk_t rfl rfl rfl g2 rfl ?_
    refine sl_mv rfl rfl rfl ?_
    refine sl_guard_n rfl rfl rfl (rfl) ?_
    refine sl_guard_n rfl rfl rfl (rfl) ?_
    refine sl_guard_n rfl rfl rfl (rfl) ?_
    refine sl_guard_n rfl rfl rfl (rfl) ?_
    refine sl_pk_t rfl rfl rfl (rfl) rfl ?_
    refine sl_nil ?_
    refine sw_true rfl (rfl) ?_
    refine sw_seq ?_
    refine sl_region ?_
    refine sl_as rfl rfl rfl ?_
    refine sl_nil ?_
    refine sw_ret ⟨rfl, _, _, res_one rfl rfl, ?_, ⟨rfl, rfl⟩⟩
    repeat constructor
  refine sl_guard_y rfl rfl rfl g2 ?_
  first
    | refine sl_fieldAddr_ptr rfl rfl rfl fo_97_4 ?_
    | refine sl_fieldAddr_rp rfl rfl rfl fo_97_4 ?_
    | refine sl_fieldAddr_ref rfl rfl rfl fo_97_4 ?_
  refine sl_guard_y rfl rfl rfl g2 ?_
  first
    | refine sl_load_rp1 rfl rfl rfl ag_9 rfl ?_
    | refine sl_load_blk1 rfl rfl rfl ag_9 (by repeat constructor) rfl ?_
  refine sl_guard_y rfl rfl rfl g2 ?_
  refine sl_len_str rfl rfl rfl u_9 ?_
  refine sl_guard_y rfl rfl rfl g2 ?_
  refine sl_bin rfl rfl rfl rfl rfl ?_
  refine sl_pk_f rfl rfl rfl g2 rfl ?_
  refine sl_mv rfl rfl rfl ?_
  refine sl_case_at 33 rfl (fun g3 => ?_) (fun g3 => ?_)
  · refine sl_guard_n rfl rfl rfl g3 ?_
    refine sl_guard_n rfl rfl rfl g3 ?_
    refine sl_guard_n rfl rfl rfl g3 ?_
    refine sl_guard_n rfl rfl rfl g3 ?_
    refine sl_pk_t rfl rfl rfl g3 rfl ?_
    refine sl_nil ?_
    refine sw_true rfl (rfl) ?_
    refine sw_seq ?_
    refine sl_region ?_
    refine sl_as rfl rfl rfl ?_
    refine sl_nil ?_
    refine sw_ret ⟨rfl, _, _, res_one rfl rfl, ?_, ⟨rfl, rfl⟩⟩
    repeat constructor
  refine sl_guard_y rfl rfl rfl g3 ?_
  first
    | refine sl_fieldAddr_ptr rfl rfl rfl fo_97_3 ?_
    | refine sl_fieldAddr_rp rfl rfl rfl fo_97_3 ?_
    | refine sl_fieldAddr_ref rfl rfl rfl fo_97_3 ?_
  refine sl_guard_y rfl rfl rfl g3 ?_
  first
    | refine sl_load_rp1 rfl rfl rfl ag_67 rfl ?_
    | refine sl_load_blk1 rfl rfl rfl ag_67 (by repeat constructor) rfl ?_
  refine sl_guard_y rfl rfl rfl g3 ?_
  first
    | refine sl_len rfl rfl rfl ⟨_, u_67⟩ ?_
    | refine sl_len_sl rfl rfl rfl ⟨_, u_67⟩ ?_
    | refine sl_len_w _ rfl rfl rfl ⟨_, u_67⟩ ?_
  refine sl_guard_y rfl rfl rfl g3 ?_
  refine sl_bin rfl rfl rfl rfl rfl ?_
  refine sl_pk_f rfl rfl rfl g3 rfl ?_
  refine sl_nil ?_
  refine sw_cond rfl (fun g4 => ?_) (fun g4 => ?_)
  · refine sw_seq ?_
    refine sl_region ?_
    refine sl_as rfl rfl rfl ?_
    refine sl_nil ?_
    refine sw_ret ⟨rfl, _, _, res_one rfl rfl, ?_, ⟨rfl, rfl⟩⟩
    repeat constructor
  have n1 : r.name.length ≤ 100 := by have := of_decide_eq_false g1; omega
  have n2 : r.text.length ≤ 1000 := by have := of_decide_eq_false g2; omega
  have n3 : p.text.length ≤ 1000 := by have := of_decide_eq_false g3; omega
  have n4 : p.alarms.length ≤ 20 := by have := of_decide_eq_false g4; rw [List.length_map] at this; omega
  have hl1 := encReq_len hr (c := 1000) (by decide) (by omega) n2
  have hl2 := encRep_len hp (c := 1000) (by decide) n3 (by omega)
  refine sw_skip ?_
  refine sw_seq ?_
  refine sa_start [] mixed ?_
  refine sa_take 0 rfl rfl (by kernel_rfl) .nil (pu_load_rpn rfl rfl ag_89 sz_89 (Nat.le_of_ble_eq_true rfl)) ?_
  refine sa_take 2 rfl rfl (by kernel_rfl) .nil (pu_load_rpn rfl rfl ag_97 sz_97 (Nat.le_of_ble_eq_true rfl)) ?_
  refine sa_one 1 (by kernel_rfl) rfl ?_
  refine sl_callf rfl rfl cal_56 (qbytes_ok r [] hr (by omega) (by omega)) ?_ ?_ ?_ (fun _ _ h => h.elim)
  · repeat constructor
  · repeat constructor
  rintro _ _ ⟨rfl, rfl⟩
  refine sl_nil ⟨.nil, ?_⟩
  refine sa_one 3 (by kernel_rfl) rfl ?_
  refine sl_callf rfl rfl cal_57 (qreply_ok p [] hp (by omega) (by omega)) ?_ ?_ ?_ (fun _ _ h => h.elim)
  · repeat constructor
  · repeat constructor
  rintro _ _ ⟨rfl, rfl⟩
  refine sl_nil ⟨.nil, ?_⟩
  refine sa_one 4 (by kernel_rfl) rfl ?_
  refine sl_as rfl rfl rfl ?_
  refine sl_nil ⟨.nil, ?_⟩
  refine sa_one 5 (by kernel_rfl) rfl ?_
  refine sl_as rfl rfl rfl ?_
  refine sl_nil ⟨.nil, ?_⟩
  refine sa_done (by kernel_rfl) ?_
  refine sw_seq ?_
  refine sw_seq ?_
  refine sa_start [] mixed ?_
  refine sa_take 0 rfl rfl (by kernel_rfl) .nil (pu_mv rfl rfl) ?_
  refine sa_take 1 rfl rfl (by kernel_rfl) .nil (pu_bytes_str rfl rfl u_26 u_5 u_9) ?_
  refine sa_take 2 rfl rfl (by kernel_rfl) .nil (pu_load_rpn rfl rfl ag_89 sz_89 (Nat.le_of_ble_eq_true rfl)) ?_
  refine sa_one 3 (by kernel_rfl) rfl ?_
  refine sl_callf rfl rfl cal_49 (dbytes_ok r [] hr (by omega) (by omega)) ?_ ?_ ?_ (fun _ _ h => h.elim)
  · repeat constructor
  · repeat constructor
  rintro _ _ ⟨v1, rfl, rfl⟩
  refine sl_nil ⟨.nil, ?_⟩
  refine sa_take 4 rfl rfl (by kernel_rfl) .nil (pu_bytes_str rfl rfl u_26 u_5 u_9) ?_
  refine sa_take 5 rfl rfl (by kernel_rfl) .nil (pu_str rfl rfl rfl rfl) ?_
  refine sa_set 48 (.val (.bool false)) (self_not_str _) ?_
  refine sa_take 6 rfl rfl (by kernel_rfl) .nil (pu_mv rfl rfl) ?_
  refine sa_take_y 7 rfl rfl rfl rfl (rfl) (by kernel_rfl) .nil (pu_mv rfl rfl) ?_
  refine sa_take_y 8 rfl rfl rfl rfl (rfl) (by kernel_rfl) .nil (pu_bytes_str rfl rfl u_26 u_5 u_9) ?_
  refine sa_take_y 9 rfl rfl rfl rfl (rfl) (by kernel_rfl) .nil (pu_load_rpn rfl rfl ag_97 sz_97 (Nat.le_of_ble_eq_true rfl)) ?_
  refine sa_one 10 (by kernel_rfl) rfl ?_
  refine sl_guard_y rfl rfl rfl (rfl) ?_
  refine sl_callf rfl rfl cal_58 (dreply_ok p [] hp (by omega) (by omega)) ?_ ?_ ?_ (fun _ _ h => h.elim)
  · repeat constructor
  · repeat constructor
  rintro _ _ ⟨v2, rfl, rfl⟩
  refine sl_nil ⟨.nil, ?_⟩
  refine sa_take_y 11 rfl rfl rfl rfl (rfl) (by kernel_rfl) .nil (pu_bytes_str rfl rfl u_26 u_5 u_9) ?_
  refine sa_take_y 12 rfl rfl rfl rfl (rfl) (by kernel_rfl) .nil (pu_str rfl rfl rfl rfl) ?_
  refine sa_set 55 (.val (.bool false)) (self_not_str _) ?_
  refine sa_take 13 rfl rfl (by kernel_rfl) .nil (pu_pk_f rfl rfl (rfl) rfl) ?_
  refine sa_done (by kernel_rfl) ?_
  refine sw_false rfl (rfl) ?_
  refine sw_skip ?_
  refine sw_seq ?_
  refine sl_region ?_
  refine sl_mv rfl rfl rfl ?_
  refine sl_callf rfl rfl cal_50 (qopen_ok (encReq r) [] (by omega)) ?_ ?_ ?_ (fun _ _ h => h.elim)
  · repeat constructor
  · repeat constructor
  rintro _ _ ⟨rfl, rfl⟩
  obtain ⟨Q, hQ⟩ : ∃ Q, Q = (openReq (encReq r)).getD noReq := ⟨_, rfl⟩
  rw [← hQ]
  refine sl_mv rfl rfl rfl ?_
  refine sl_extract rfl rfl rfl rfl ?_
  refine sl_extract rfl rfl rfl rfl ?_
  refine sl_alloc rfl rfl zd_89 (fun b7 => ?_)
  refine sl_stp rfl rfl rfl rfl sz_89 rfl rfl rfl (by repeat constructor) (Nat.le_of_ble_eq_true rfl) ?_
  refine sl_as rfl rfl rfl ?_
  refine sl_nil ?_
  refine sw_seq ?_
  refine sw_cutk ⟨126, (.cons 2 (.rp [.int .i64 r.kind, .str r.name, .str r.text, .int .i64 r.n]) (.cons 3 (.rp [.int .i64 p.kind, .int .i64 p.err, .int .i64 p.pos, .list (p.alarms.map almV), .str p.text, .int .i64 p.n]) (.cons 6 (.val (.list ((encRep p).map byteV))) (.cons 7 (.ptr b7 0) (.cons 8 (.val (.int .i64 (errOf (openReq (encReq r))))) (.cons 9 (.val (.bool (decide (isI32 r.n)))) .nil))))))⟩ (.blk b7 (rowOf (reqV Q)) :: []) (True) ?_ ?_
  · refine sl_region ?_
    first
      | refine sl_fieldAddr_ptr rfl rfl rfl fo_89_3 ?_
      | refine sl_fieldAddr_rp rfl rfl rfl fo_89_3 ?_
      | refine sl_fieldAddr_ref rfl rfl rfl fo_89_3 ?_
    first
      | refine sl_load_rp1 rfl rfl rfl ag_3 rfl ?_
      | refine sl_load_blk1 rfl rfl rfl ag_3 (by repeat constructor) rfl ?_
    refine sl_bin rfl rfl rfl rfl rfl ?_
    refine sl_mv rfl rfl rfl ?_
    refine sl_case_at 65 rfl (fun h1 => ?_) (fun h1 => ?_)
    · refine sl_guard_y rfl rfl rfl h1 ?_
      first
        | refine sl_fieldAddr_ptr rfl rfl rfl fo_89_3 ?_
        | refine sl_fieldAddr_rp rfl rfl rfl fo_89_3 ?_
        | refine sl_fieldAddr_ref rfl rfl rfl fo_89_3 ?_
      refine sl_guard_y rfl rfl rfl h1 ?_
      first
        | refine sl_load_rp1 rfl rfl rfl ag_3 rfl ?_
        | refine sl_load_blk1 rfl rfl rfl ag_3 (by repeat constructor) rfl ?_
      refine sl_guard_y rfl rfl rfl h1 ?_
      refine sl_bin rfl rfl rfl rfl rfl ?_
      refine sl_pk_t rfl rfl rfl h1 rfl ?_
      refine sl_set 69 (.val (.bool (decide (isI32 r.n)))) (congrArg (fun b => D.val (.bool b)) (decide_eq_decide.mpr ⟨fun h => ⟨by have := of_decide_eq_true h1; omega, h⟩, fun h => h.2⟩)) ?_
      refine sl_as rfl rfl rfl ?_
      refine sl_nil ?_
      refine ⟨?_, ?_, rfl, trivial⟩
      · exact ⟨rfl, by repeat constructor⟩
      · repeat constructor
    refine sl_guard_n rfl rfl rfl h1 ?_
    refine sl_guard_n rfl rfl rfl h1 ?_
    refine sl_guard_n rfl rfl rfl h1 ?_
    refine sl_pk_f rfl rfl rfl h1 rfl ?_
    refine sl_set 69 (.val (.bool (decide (isI32 r.n)))) (dec_ff (fun h => by have := of_decide_eq_false h1; have := h.1; omega)) ?_
    refine sl_as rfl rfl rfl ?_
    refine sl_nil ?_
    refine ⟨?_, ?_, rfl, trivial⟩
    · exact ⟨rfl, by repeat constructor⟩
    · repeat constructor
  intro _
  refine sw_seq ?_
  refine sw_seq ?_
  refine sw_cutk ⟨126, (.cons 2 (.rp [.int .i64 r.kind, .str r.name, .str r.text, .int .i64 r.n]) (.cons 3 (.rp [.int .i64 p.kind, .int .i64 p.err, .int .i64 p.pos, .list (p.alarms.map almV), .str p.text, .int .i64 p.n]) (.cons 6 (.val (.list ((encRep p).map byteV))) (.cons 7 (.ptr b7 0) (.cons 8 (.val (.int .i64 (errOf (openReq (encReq r))))) (.cons 10 (.val (.bool (decide (reqGood r)))) .nil))))))⟩ (.blk b7 (rowOf (reqV Q)) :: []) (True) ?_ ?_
  · refine sl_region ?_
    first
      | refine sl_fieldAddr_ptr rfl rfl rfl fo_89_0 ?_
      | refine sl_fieldAddr_rp rfl rfl rfl fo_89_0 ?_
      | refine sl_fieldAddr_ref rfl rfl rfl fo_89_0 ?_
    first
      | refine sl_load_rp1 rfl rfl rfl ag_3 rfl ?_
      | refine sl_load_blk1 rfl rfl rfl ag_3 (by repeat constructor) rfl ?_
    refine sl_bin rfl rfl rfl rfl rfl ?_
    refine sl_mv rfl rfl rfl ?_
    refine sl_case_at 73 rfl (fun h1 => ?_) (fun h1 => ?_)
    · refine sl_guard_y rfl rfl rfl h1 ?_
      first
        | refine sl_fieldAddr_ptr rfl rfl rfl fo_89_0 ?_
        | refine sl_fieldAddr_rp rfl rfl rfl fo_89_0 ?_
        | refine sl_fieldAddr_ref rfl rfl rfl fo_89_0 ?_
      refine sl_guard_y rfl rfl rfl h1 ?_
      first
        | refine sl_load_rp1 rfl rfl rfl ag_3 rfl ?_
        | refine sl_load_blk1 rfl rfl rfl ag_3 (by repeat constructor) rfl ?_
      refine sl_guard_y rfl rfl rfl h1 ?_
      refine sl_bin rfl rfl rfl rfl rfl ?_
      refine sl_pk_t rfl rfl rfl h1 rfl ?_
      refine sl_mv rfl rfl rfl ?_
      refine sl_case_at 78 rfl (fun h2 => ?_) (fun h2 => ?_)
      · refine sl_guard_y rfl rfl rfl h2 ?_
        refine sl_mv rfl rfl rfl ?_
        refine sl_pk_t rfl rfl rfl h2 rfl ?_
        refine sl_set 80 (.val (.bool (decide (reqGood r)))) (congrArg (fun b => D.val (.bool b)) (decide_eq_decide.mpr ⟨fun h => ⟨h, by have := of_decide_eq_true h1; omega, of_decide_eq_true h2⟩, fun h => h.1⟩)) ?_
        refine sl_as rfl rfl rfl ?_
        refine sl_nil ?_
        refine ⟨?_, ?_, rfl, trivial⟩
        · exact ⟨rfl, by repeat constructor⟩
        · repeat constructor
      refine sl_guard_n rfl rfl rfl h2 ?_
      refine sl_pk_f rfl rfl rfl h2 rfl ?_
      refine sl_set 80 (.val (.bool (decide (reqGood r)))) (dec_ff (fun h => of_decide_eq_false h2 h.2.2)) ?_
      refine sl_as rfl rfl rfl ?_
      refine sl_nil ?_
      refine ⟨?_, ?_, rfl, trivial⟩
      · exact ⟨rfl, by repeat constructor⟩
      · repeat constructor
    refine sl_guard_n rfl rfl rfl h1 ?_
    refine sl_guard_n rfl rfl rfl h1 ?_
    refine sl_guard_n rfl rfl rfl h1 ?_
    refine sl_pk_f rfl rfl rfl h1 rfl ?_
    refine sl_mv rfl rfl rfl ?_
    refine sl_guard_n rfl rfl rfl (rfl) ?_
    refine sl_pk_f rfl rfl rfl (rfl) rfl ?_
    refine sl_set 80 (.val (.bool (decide (reqGood r)))) (dec_ff (fun h => by have := of_decide_eq_false h1; have := h.2.1; omega)) ?_
    refine sl_as rfl rfl rfl ?_
    refine sl_nil ?_
    refine ⟨?_, ?_, rfl, trivial⟩
    · exact ⟨rfl, by repeat constructor⟩
    · repeat constructor
  intro _
  refine sw_seq ?_
  refine sl_region ?_
  refine sl_mv rfl rfl rfl ?_
  refine sl_mv rfl rfl rfl ?_
  refine sl_bin rfl rfl rfl rfl rfl ?_
  refine sl_bool_ne rfl rfl rfl rfl u_4 ?_
  refine sl_set 84 (.val (.bool false)) (congrArg (fun b => D.val (.bool b)) (reqGood_err hr (by omega) n2)) ?_
  refine sl_mv rfl rfl rfl ?_
  refine sl_guard_y rfl rfl rfl (rfl) ?_
  refine sl_mv rfl rfl rfl ?_
  refine sl_guard_y rfl rfl rfl (rfl) ?_
  refine sl_mv rfl rfl rfl ?_
  refine sl_case_at 87 rfl (fun hg => ?_) (fun hg => ?_)
  · have hQr : Q = r := by rw [hQ]; exact reqGood_same hr (by omega) n2 (of_decide_eq_true hg)
    refine sl_guard_y rfl rfl rfl hg ?_
    first
      | refine sl_load_rpn rfl rfl rfl ag_89 sz_89 (Nat.le_of_ble_eq_true rfl) ?_
      | refine sl_load_blkn rfl rfl rfl ag_89 sz_89 (by repeat constructor) (Nat.le_of_ble_eq_true rfl) ?_
      | refine sl_load_ref rfl rfl rfl ag_89 sz_89 (Nat.le_of_ble_eq_true rfl) ?_
    refine sl_guard_y rfl rfl rfl hg ?_
    first
      | refine sl_load_rpn rfl rfl rfl ag_89 sz_89 (Nat.le_of_ble_eq_true rfl) ?_
      | refine sl_load_blkn rfl rfl rfl ag_89 sz_89 (by repeat constructor) (Nat.le_of_ble_eq_true rfl) ?_
      | refine sl_load_ref rfl rfl rfl ag_89 sz_89 (Nat.le_of_ble_eq_true rfl) ?_
    refine sl_guard_y rfl rfl rfl hg ?_
    refine sl_callf rfl rfl cal_54 (same_ok Q r (.blk b7 (rowOf (reqV Q)) :: [])) ?_ ?_ ?_ (fun _ _ h => h.elim)
    · repeat constructor
    · repeat constructor
    rintro _ _ ⟨rfl, hσ⟩
    have hσ2 := hσ.symm
    subst hσ2
    refine sl_guard_y rfl rfl rfl hg ?_
    refine sl_not rfl rfl rfl ?_
    refine sl_set 91 (.val (.bool false)) (not_dec_true hQr) ?_
    refine sl_guard_y rfl rfl rfl (rfl) ?_
    refine sl_pk_t rfl rfl rfl hg rfl ?_
    refine sl_pk_f rfl rfl rfl (rfl) rfl ?_
    refine sl_nil ?_
    refine sw_false rfl (rfl) ?_
    refine sw_skip ?_
    refine sw_seq ?_
    refine sl_region ?_
    refine sl_mv rfl rfl rfl ?_
    refine sl_callf rfl rfl cal_52 (qopenrep_ok (encRep p) (.blk b7 (rowOf (reqV Q)) :: []) (by omega)) ?_ ?_ ?_ (fun _ _ h => h.elim)
    · repeat constructor
    · repeat constructor
    rintro _ _ ⟨rfl, hσ⟩
    have hσ2 := hσ.symm
    subst hσ2
    refine sl_mv rfl rfl rfl ?_
    refine sl_extract rfl rfl rfl rfl ?_
    refine sl_extract rfl rfl rfl rfl ?_
    refine sl_alloc rfl rfl zd_97 (fun b11 => ?_)
    refine sl_stp rfl rfl rfl rfl sz_97 rfl rfl rfl (by repeat constructor) (Nat.le_of_ble_eq_true rfl) ?_
    refine sl_as rfl rfl rfl ?_
    refine sl_nil ?_
    refine sw_seq ?_
    refine sl_region ?_
    refine sl_mv rfl rfl rfl ?_
    refine sl_callf rfl rfl cal_53 (dopenrep_ok (encRep p) (.blk b11 (rowOf (repV ((openRep (encRep p)).getD noRep))) :: .blk b7 (rowOf (reqV Q)) :: []) (by omega)) ?_ ?_ ?_ (fun _ _ h => h.elim)
    · repeat constructor
    · repeat constructor
    rintro _ _ ⟨rfl, hσ⟩
    have hσ2 := hσ.symm
    subst hσ2
    obtain ⟨Y, hY⟩ : ∃ Y, Y = (openRep (encRep p)).getD noRep := ⟨_, rfl⟩
    rw [← hY]
    have hYs : Y.alarms.length ≤ 100000000 := by rw [hY]; exact Nat.le_trans openRep_small (by omega)
    refine sl_mv rfl rfl rfl ?_
    refine sl_extract rfl rfl rfl rfl ?_
    refine sl_extract rfl rfl rfl rfl ?_
    refine sl_alloc rfl rfl zd_97 (fun b13 => ?_)
    refine sl_stp rfl rfl rfl rfl sz_97 rfl rfl rfl (by repeat constructor) (Nat.le_of_ble_eq_true rfl) ?_
    refine sl_as rfl rfl rfl ?_
    refine sl_nil ?_
    refine sw_seq ?_
    refine sl_region ?_
    refine sl_mv rfl rfl rfl ?_
    refine sl_mv rfl rfl rfl ?_
    refine sl_bin rfl rfl rfl rfl rfl ?_
    refine sl_set 106 (.val (.bool true)) (self_i64 _) ?_
    refine sl_mv rfl rfl rfl ?_
    refine sl_guard_y rfl rfl rfl (rfl) ?_
    first
      | refine sl_load_rpn rfl rfl rfl ag_97 sz_97 (Nat.le_of_ble_eq_true rfl) ?_
      | refine sl_load_blkn rfl rfl rfl ag_97 sz_97 (by repeat constructor) (Nat.le_of_ble_eq_true rfl) ?_
      | refine sl_load_ref rfl rfl rfl ag_97 sz_97 (Nat.le_of_ble_eq_true rfl) ?_
    refine sl_guard_y rfl rfl rfl (rfl) ?_
    first
      | refine sl_load_rpn rfl rfl rfl ag_97 sz_97 (Nat.le_of_ble_eq_true rfl) ?_
      | refine sl_load_blkn rfl rfl rfl ag_97 sz_97 (by repeat constructor) (Nat.le_of_ble_eq_true rfl) ?_
      | refine sl_load_ref rfl rfl rfl ag_97 sz_97 (Nat.le_of_ble_eq_true rfl) ?_
    refine sl_guard_y rfl rfl rfl (rfl) ?_
    refine sl_callf rfl rfl cal_55 (hreply_ok Y Y (.blk b13 (rowOf (repV Y)) :: .blk b11 (rowOf (repV Y)) :: .blk b7 (rowOf (reqV Q)) :: []) hYs) ?_ ?_ ?_ (fun _ _ h => h.elim)
    · repeat constructor
    · repeat constructor
    rintro _ _ ⟨rfl, hσ⟩
    have hσ2 := hσ.symm
    subst hσ2
    refine sl_set 110 (.val (.bool true)) ((dec_tt (rfl : Y = Y)).symm) ?_
    refine sl_pk_t rfl rfl rfl (rfl) rfl ?_
    refine sl_mv rfl rfl rfl ?_
    refine sl_guard_y rfl rfl rfl (rfl) ?_
    refine sl_mv rfl rfl rfl ?_
    refine sl_guard_y rfl rfl rfl (rfl) ?_
    refine sl_bin rfl rfl rfl rfl rfl ?_
    refine sl_guard_y rfl rfl rfl (rfl) ?_
    refine sl_mv rfl rfl rfl ?_
    refine sl_case_at 115 rfl (fun he => ?_) (fun he => ?_)
    · refine sl_guard_n rfl rfl rfl he ?_
      refine sl_guard_n rfl rfl rfl he ?_
      refine sl_guard_n rfl rfl rfl he ?_
      refine sl_guard_y rfl rfl rfl (rfl) ?_
      refine sl_pk_t rfl rfl rfl he rfl ?_
      refine sl_guard_y rfl rfl rfl (rfl) ?_
      refine sl_mv rfl rfl rfl ?_
      refine sl_guard_n rfl rfl rfl (rfl) ?_
      refine sl_guard_n rfl rfl rfl (rfl) ?_
      refine sl_guard_n rfl rfl rfl (rfl) ?_
      refine sl_guard_y rfl rfl rfl (rfl) ?_
      refine sl_pk_t rfl rfl rfl (rfl) rfl ?_
      refine sl_pk_t rfl rfl rfl (rfl) rfl ?_
      refine sl_as rfl rfl rfl ?_
      refine sl_nil ?_
      refine sw_ret ⟨rfl, _, _, res_one rfl rfl, ?_, ⟨rfl, rfl⟩⟩
      repeat constructor
    refine sl_guard_y rfl rfl rfl he ?_
    first
      | refine sl_fieldAddr_ptr rfl rfl rfl fo_97_0 ?_
      | refine sl_fieldAddr_rp rfl rfl rfl fo_97_0 ?_
      | refine sl_fieldAddr_ref rfl rfl rfl fo_97_0 ?_
    refine sl_guard_y rfl rfl rfl he ?_
    first
      | refine sl_load_rp1 rfl rfl rfl ag_3 rfl ?_
      | refine sl_load_blk1 rfl rfl rfl ag_3 (by repeat constructor) rfl ?_
    refine sl_guard_y rfl rfl rfl he ?_
    refine sl_bin rfl rfl rfl rfl rfl ?_
    refine sl_guard_y rfl rfl rfl (rfl) ?_
    refine sl_pk_f rfl rfl rfl he rfl ?_
    refine sl_guard_y rfl rfl rfl (rfl) ?_
    refine sl_mv rfl rfl rfl ?_
    refine sl_case_at 120 rfl (fun hk => ?_) (fun hk => ?_)
    · refine sl_guard_n rfl rfl rfl hk ?_
      refine sl_guard_n rfl rfl rfl hk ?_
      refine sl_guard_n rfl rfl rfl hk ?_
      refine sl_guard_y rfl rfl rfl (rfl) ?_
      refine sl_pk_t rfl rfl rfl hk rfl ?_
      refine sl_pk_t rfl rfl rfl (rfl) rfl ?_
      refine sl_as rfl rfl rfl ?_
      refine sl_nil ?_
      refine sw_ret ⟨rfl, _, _, res_one rfl rfl, ?_, ⟨rfl, rfl⟩⟩
      repeat constructor
    have hYp : Y = p := by rw [hY]; exact rep_same hp (by omega) (by omega) he (by have := of_decide_eq_false hk; omega)
    refine sl_guard_y rfl rfl rfl hk ?_
    first
      | refine sl_load_rpn rfl rfl rfl ag_97 sz_97 (Nat.le_of_ble_eq_true rfl) ?_
      | refine sl_load_blkn rfl rfl rfl ag_97 sz_97 (by repeat constructor) (Nat.le_of_ble_eq_true rfl) ?_
      | refine sl_load_ref rfl rfl rfl ag_97 sz_97 (Nat.le_of_ble_eq_true rfl) ?_
    refine sl_guard_y rfl rfl rfl hk ?_
    first
      | refine sl_load_rpn rfl rfl rfl ag_97 sz_97 (Nat.le_of_ble_eq_true rfl) ?_
      | refine sl_load_blkn rfl rfl rfl ag_97 sz_97 (by repeat constructor) (Nat.le_of_ble_eq_true rfl) ?_
      | refine sl_load_ref rfl rfl rfl ag_97 sz_97 (Nat.le_of_ble_eq_true rfl) ?_
    refine sl_guard_y rfl rfl rfl hk ?_
    refine sl_callf rfl rfl cal_55 (hreply_ok Y p (.blk b13 (rowOf (repV Y)) :: .blk b11 (rowOf (repV Y)) :: .blk b7 (rowOf (reqV Q)) :: []) hYs) ?_ ?_ ?_ (fun _ _ h => h.elim)
    · repeat constructor
    · repeat constructor
    rintro _ _ ⟨rfl, hσ⟩
    have hσ2 := hσ.symm
    subst hσ2
    refine sl_set 123 (.val (.bool true)) ((dec_tt hYp).symm) ?_
    refine sl_guard_y rfl rfl rfl (rfl) ?_
    refine sl_pk_f rfl rfl rfl hk rfl ?_
    refine sl_pk_t rfl rfl rfl (rfl) rfl ?_
    refine sl_as rfl rfl rfl ?_
    refine sl_nil ?_
    refine sw_ret ⟨rfl, _, _, res_one rfl rfl, ?_, ⟨rfl, rfl⟩⟩
    repeat constructor
  refine sl_guard_n rfl rfl rfl hg ?_
  refine sl_guard_n rfl rfl rfl hg ?_
  refine sl_guard_n rfl rfl rfl hg ?_
  refine sl_guard_n rfl rfl rfl hg ?_
  refine sl_guard_y rfl rfl rfl (rfl) ?_
  refine sl_pk_f rfl rfl rfl hg rfl ?_
  refine sl_pk_f rfl rfl rfl (rfl) rfl ?_
  refine sl_nil ?_
  refine sw_false rfl (rfl) ?_
  refine sw_skip ?_
  refine sw_seq ?_
  refine sl_region ?_
  refine sl_mv rfl rfl rfl ?_
  refine sl_callf rfl rfl cal_52 (qopenrep_ok (encRep p) (.blk b7 (rowOf (reqV Q)) :: []) (by omega)) ?_ ?_ ?_ (fun _ _ h => h.elim)
  · repeat constructor
  · repeat constructor
  rintro _ _ ⟨rfl, hσ⟩
  have hσ2 := hσ.symm
  subst hσ2
  refine sl_mv rfl rfl rfl ?_
  refine sl_extract rfl rfl rfl rfl ?_
  refine sl_extract rfl rfl rfl rfl ?_
  refine sl_alloc rfl rfl zd_97 (fun b11 => ?_)
  refine sl_stp rfl rfl rfl rfl sz_97 rfl rfl rfl (by repeat constructor) (Nat.le_of_ble_eq_true rfl) ?_
  refine sl_as rfl rfl rfl ?_
  refine sl_nil ?_
  refine sw_seq ?_
  refine sl_region ?_
  refine sl_mv rfl rfl rfl ?_
  refine sl_callf rfl rfl cal_53 (dopenrep_ok (encRep p) (.blk b11 (rowOf (repV ((openRep (encRep p)).getD noRep))) :: .blk b7 (rowOf (reqV Q)) :: []) (by omega)) ?_ ?_ ?_ (fun _ _ h => h.elim)
  · repeat constructor
  · repeat constructor
  rintro _ _ ⟨rfl, hσ⟩
  have hσ2 := hσ.symm
  subst hσ2
  obtain ⟨Y, hY⟩ : ∃ Y, Y = (openRep (encRep p)).getD noRep := ⟨_, rfl⟩
  rw [← hY]
  have hYs : Y.alarms.length ≤ 100000000 := by rw [hY]; exact Nat.le_trans openRep_small (by omega)
  refine sl_mv rfl rfl rfl ?_
  refine sl_extract rfl rfl rfl rfl ?_
  refine sl_extract rfl rfl rfl rfl ?_
  refine sl_alloc rfl rfl zd_97 (fun b13 => ?_)
  refine sl_stp rfl rfl rfl rfl sz_97 rfl rfl rfl (by repeat constructor) (Nat.le_of_ble_eq_true rfl) ?_
  refine sl_as rfl rfl rfl ?_
  refine sl_nil ?_
  refine sw_seq ?_
  refine sl_region ?_
  refine sl_mv rfl rfl rfl ?_
  refine sl_mv rfl rfl rfl ?_
  refine sl_bin rfl rfl rfl rfl rfl ?_
  refine sl_set 106 (.val (.bool true)) (self_i64 _) ?_
  refine sl_mv rfl rfl rfl ?_
  refine sl_guard_y rfl rfl rfl (rfl) ?_
  first
    | refine sl_load_rpn rfl rfl rfl ag_97 sz_97 (Nat.le_of_ble_eq_true rfl) ?_
    | refine sl_load_blkn rfl rfl rfl ag_97 sz_97 (by repeat constructor) (Nat.le_of_ble_eq_true rfl) ?_
    | refine sl_load_ref rfl rfl rfl ag_97 sz_97 (Nat.le_of_ble_eq_true rfl) ?_
  refine sl_guard_y rfl rfl rfl (rfl) ?_
  first
    | refine sl_load_rpn rfl rfl rfl ag_97 sz_97 (Nat.le_of_ble_eq_true rfl) ?_
    | refine sl_load_blkn rfl rfl rfl ag_97 sz_97 (by repeat constructor) (Nat.le_of_ble_eq_true rfl) ?_
    | refine sl_load_ref rfl rfl rfl ag_97 sz_97 (Nat.le_of_ble_eq_true rfl) ?_
  refine sl_guard_y rfl rfl rfl (rfl) ?_
  refine sl_callf rfl rfl cal_55 (hreply_ok Y Y (.blk b13 (rowOf (repV Y)) :: .blk b11 (rowOf (repV Y)) :: .blk b7 (rowOf (reqV Q)) :: []) hYs) ?_ ?_ ?_ (fun _ _ h => h.elim)
  · repeat constructor
  · repeat constructor
  rintro _ _ ⟨rfl, hσ⟩
  have hσ2 := hσ.symm
  subst hσ2
  refine sl_set 110 (.val (.bool true)) ((dec_tt (rfl : Y = Y)).symm) ?_
  refine sl_pk_t rfl rfl rfl (rfl) rfl ?_
  refine sl_mv rfl rfl rfl ?_
  refine sl_guard_y rfl rfl rfl (rfl) ?_
  refine sl_mv rfl rfl rfl ?_
  refine sl_guard_y rfl rfl rfl (rfl) ?_
  refine sl_bin rfl rfl rfl rfl rfl ?_
  refine sl_guard_y rfl rfl rfl (rfl) ?_
  refine sl_mv rfl rfl rfl ?_
  refine sl_case_at 115 rfl (fun he => ?_) (fun he => ?_)
  · refine sl_guard_n rfl rfl rfl he ?_
    refine sl_guard_n rfl rfl rfl he ?_
    refine sl_guard_n rfl rfl rfl he ?_
    refine sl_guard_y rfl rfl rfl (rfl) ?_
    refine sl_pk_t rfl rfl rfl he rfl ?_
    refine sl_guard_y rfl rfl rfl (rfl) ?_
    refine sl_mv rfl rfl rfl ?_
    refine sl_guard_n rfl rfl rfl (rfl) ?_
    refine sl_guard_n rfl rfl rfl (rfl) ?_
    refine sl_guard_n rfl rfl rfl (rfl) ?_
    refine sl_guard_y rfl rfl rfl (rfl) ?_
    refine sl_pk_t rfl rfl rfl (rfl) rfl ?_
    refine sl_pk_t rfl rfl rfl (rfl) rfl ?_
    refine sl_as rfl rfl rfl ?_
    refine sl_nil ?_
    refine sw_ret ⟨rfl, _, _, res_one rfl rfl, ?_, ⟨rfl, rfl⟩⟩
    repeat constructor
  refine sl_guard_y rfl rfl rfl he ?_
  first
    | refine sl_fieldAddr_ptr rfl rfl rfl fo_97_0 ?_
    | refine sl_fieldAddr_rp rfl rfl rfl fo_97_0 ?_
    | refine sl_fieldAddr_ref rfl rfl rfl fo_97_0 ?_
  refine sl_guard_y rfl rfl rfl he ?_
  first
    | refine sl_load_rp1 rfl rfl rfl ag_3 rfl ?_
    | refine sl_load_blk1 rfl rfl rfl ag_3 (by repeat constructor) rfl ?_
  refine sl_guard_y rfl rfl rfl he ?_
  refine sl_bin rfl rfl rfl rfl rfl ?_
  refine sl_guard_y rfl rfl rfl (rfl) ?_
  refine sl_pk_f rfl rfl rfl he rfl ?_
  refine sl_guard_y rfl rfl rfl (rfl) ?_
  refine sl_mv rfl rfl rfl ?_
  refine sl_case_at 120 rfl (fun hk => ?_) (fun hk => ?_)
  · refine sl_guard_n rfl rfl rfl hk ?_
    refine sl_guard_n rfl rfl rfl hk ?_
    refine sl_guard_n rfl rfl rfl hk ?_
    refine sl_guard_y rfl rfl rfl (rfl) ?_
    refine sl_pk_t rfl rfl rfl hk rfl ?_
    refine sl_pk_t rfl rfl rfl (rfl) rfl ?_
    refine sl_as rfl rfl rfl ?_
    refine sl_nil ?_
    refine sw_ret ⟨rfl, _, _, res_one rfl rfl, ?_, ⟨rfl, rfl⟩⟩
    repeat constructor
  have hYp : Y = p := by rw [hY]; exact rep_same hp (by omega) (by omega) he (by have := of_decide_eq_false hk; omega)
  refine sl_guard_y rfl rfl rfl hk ?_
  first
    | refine sl_load_rpn rfl rfl rfl ag_97 sz_97 (Nat.le_of_ble_eq_true rfl) ?_
    | refine sl_load_blkn rfl rfl rfl ag_97 sz_97 (by repeat constructor) (Nat.le_of_ble_eq_true rfl) ?_
    | refine sl_load_ref rfl rfl rfl ag_97 sz_97 (Nat.le_of_ble_eq_true rfl) ?_
  refine sl_guard_y rfl rfl rfl hk ?_
  first
    | refine sl_load_rpn rfl rfl rfl ag_97 sz_97 (Nat.le_of_ble_eq_true rfl) ?_
    | refine sl_load_blkn rfl rfl rfl ag_97 sz_97 (by repeat constructor) (Nat.le_of_ble_eq_true rfl) ?_
    | refine sl_load_ref rfl rfl rfl ag_97 sz_97 (Nat.le_of_ble_eq_true rfl) ?_
  refine sl_guard_y rfl rfl rfl hk ?_
  refine sl_callf rfl rfl cal_55 (hreply_ok Y p (.blk b13 (rowOf (repV Y)) :: .blk b11 (rowOf (repV Y)) :: .blk b7 (rowOf (reqV Q)) :: []) hYs) ?_ ?_ ?_ (fun _ _ h => h.elim)
  · repeat constructor
  · repeat constructor
  rintro _ _ ⟨rfl, hσ⟩
  have hσ2 := hσ.symm
  subst hσ2
  refine sl_set 123 (.val (.bool true)) ((dec_tt hYp).symm) ?_
  refine sl_guard_y rfl rfl rfl (rfl) ?_
  refine sl_pk_f rfl rfl rfl hk rfl ?_
  refine sl_pk_t rfl rfl rfl (rfl) rfl ?_
  refine sl_as rfl rfl rfl ?_
  refine sl_nil ?_
  refine sw_ret ⟨rfl, _, _, res_one rfl rfl, ?_, ⟨rfl, rfl⟩⟩
  repeat constructor

end Go.Proofs.Ytioechdfghglhaa

/- Walks: printed by a program of this session out of its script ReqW. -/
namespace Go.Proofs.Ytioechdfghglhaa
set_option linter.unusedVariables false
set_option linter.unusedSimpArgs false
set_option maxRecDepth 4000
set_option maxHeartbeats 4000000
open Go Go.RowKit SL


/-- The document's numbers, behind bytes that one alone holds. -/
theorem wnum_ok (l : List UInt8) (W : WL 1 l.length) (n : Nat) (σ : List Chunk) (hn : n < 18446744073709551616) (hl : l.length + 10 ≤ 100000000) :
    FSpec Try.prog 77 [W.d, .val (u64V n)] (W.k (brows l) :: σ) (fun d σ' => ∃ W' : WL 1 (l ++ encNum n).length, d = W'.d ∧ σ' = W'.k (brows (l ++ encNum n)) :: σ) := by
  refine spec_of_sw Try.func77 rfl ?_
  refine sw_seq ?_
  refine sl_region ?_
  refine sl_as rfl rfl rfl ?_
  refine sl_nil ?_
  refine sw_seq ?_
  refine sw_block ?_
  refine sw_loopw (fun nX sX δX σX => ∃ (x : Nat) (m : List UInt8) (W : WL 1 m.length), (x) = nX ∧ sX = ⟨20, (.cons 0 (W.d) (.cons 1 (.val (.int .u64 (x : Int))) .nil))⟩ ∧ δX = [] ∧ σX = W.k (brows m) :: σ ∧ (x < 18446744073709551616) ∧ (m ++ encNum x = l ++ encNum n)) ?_ ?_
  · refine ⟨_, _, _, ?_, ?_, n, l, W, rfl, rfl, rfl, rfl, hn, rfl⟩
    · exact ⟨rfl, by repeat constructor⟩
    · repeat constructor
  rintro nX sX δX σX ⟨x, m, W, rfl, rfl, rfl, rfl, hx0, hm⟩
  have hml : m.length ≤ 99999999 := by
    have h1 := congrArg List.length hm
    have h2 := encNum_len hn
    have h3 := encNum_pos x
    simp only [List.length_append] at h1
    omega
  refine sw_seq ?_
  refine sw_seq ?_
  refine sl_region ?_
  refine sl_mv rfl rfl rfl ?_
  refine sl_bin rfl rfl rfl rfl rfl ?_
  refine sl_nil ?_
  refine sw_cond rfl (fun hx => ?_) (fun hx => ?_)
  · have hx : 128 ≤ x := by have := of_decide_eq_true hx; omega
    refine sw_skip ?_
    refine sw_block ?_
    refine sw_seq ?_
    refine sl_region ?_
    refine sl_mv rfl rfl rfl ?_
    refine sl_mv rfl rfl rfl ?_
    refine sl_conv_int rfl rfl rfl is_37 u_5 ?_
    refine sl_bin rfl rfl rfl rfl rfl ?_
    refine sl_bs1 rfl rfl (.cons rfl .nil) u_26 sz_5 zs_5 (by decide) rfl rfl rfl rfl ?_
    refine sl_app_b (_) rfl rfl rfl rfl u_26 ⟨_, u_26, rfl⟩ el_5 (by repeat constructor) (by repeat constructor) (by simp; omega) ((by rw [List.map_append]; exact congrArg _ (congrArg (fun z => [z]) (hi_byte x)) : _ = (m ++ [UInt8.ofNat (x % 128 + 128)]).map byteV)) (fun v12 => ?_)
    refine sl_as rfl rfl rfl ?_
    refine sl_nil ?_
    refine sl_region ?_
    refine sl_mv rfl rfl rfl ?_
    refine sl_shr rfl rfl rfl rfl (by decide) ?_
    refine sl_set 14 (.val (.int .u64 ((x / 128 : Nat) : Int))) (shr7 x) ?_
    refine sl_as rfl rfl rfl ?_
    refine sl_nil ?_
    refine ⟨_, by omega, _, _, ?_, ?_, x / 128, m ++ [UInt8.ofNat (x % 128 + 128)], v12, rfl, rfl, rfl, rfl, by omega, by rw [← hm, encNum_ge hx]; simp⟩
    · exact ⟨rfl, by repeat constructor⟩
    · repeat constructor
  have hx : x < 128 := by have := of_decide_eq_false hx; omega
  refine sw_exit ?_
  refine sw_seq ?_
  refine sl_region ?_
  refine sl_mv rfl rfl rfl ?_
  refine sl_mv rfl rfl rfl ?_
  refine sl_conv_int rfl rfl rfl is_37 u_5 ?_
  refine sl_bs1 rfl rfl (.cons rfl .nil) u_26 sz_5 zs_5 (by decide) rfl rfl rfl rfl ?_
  refine sl_app_b (_) rfl rfl rfl rfl u_26 ⟨_, u_26, rfl⟩ el_5 (by repeat constructor) (by repeat constructor) (by simp; omega) ((by rw [← hm, encNum_lt hx, List.map_append]; exact congrArg _ (congrArg (fun z => [z]) (lo_byte x)) : _ = (l ++ encNum n).map byteV)) (fun v19 => ?_)
  refine sl_as rfl rfl rfl ?_
  refine sl_nil ?_
  refine sw_ret ⟨rfl, _, _, res_one rfl rfl, ?_, ⟨v19, rfl, rfl⟩⟩
  repeat constructor

theorem wint_ok (l : List UInt8) (W : WL 1 l.length) (n : Int) (σ : List Chunk) (h : isI64 n) (hl : l.length + 10 ≤ 100000000) :
    FSpec Try.prog 78 [W.d, .val (i64V n)] (W.k (brows l) :: σ) (fun d σ' => ∃ W' : WL 1 (l ++ encInt n).length, d = W'.d ∧ σ' = W'.k (brows (l ++ encInt n)) :: σ) := by
  have h' := h
  unfold isI64 at h'
  refine spec_of_sw Try.func78 rfl ?_
  refine sw_seq ?_
  refine sl_region ?_
  refine sl_as rfl rfl rfl ?_
  refine sl_nil ?_
  refine sw_seq ?_
  refine sw_seq ?_
  refine sl_region ?_
  refine sl_mv rfl rfl rfl ?_
  refine sl_bin rfl rfl rfl rfl rfl ?_
  refine sl_nil ?_
  refine sw_cond rfl (fun hn => ?_) (fun hn => ?_)
  · have hn : n < 0 := of_decide_eq_true hn
    refine sw_seq ?_
    refine sl_region ?_
    refine sl_mv rfl rfl rfl ?_
    refine sl_mv rfl rfl rfl ?_
    first
      | refine sl_inc rfl rfl rfl rfl (by omega) ?_
      | refine sl_add rfl rfl rfl rfl (by constructor <;> omega) ?_
      | refine sl_bin rfl rfl rfl rfl rfl ?_
    refine sl_neg rfl rfl rfl ?_
    refine sl_conv_int rfl rfl rfl is_2 u_37 ?_
    refine sl_bin rfl rfl rfl rfl rfl ?_
    refine sl_bin rfl rfl rfl rfl rfl ?_
    refine sl_set 13 (.val (u64V (zig n))) (zig_neg h hn) ?_
    refine sl_callf rfl rfl cal_77 (wnum_ok l W (zig n) σ (zig_lt h) hl) ?_ ?_ ?_ (fun _ _ h => h.elim)
    · repeat constructor
    · repeat constructor
    rintro _ _ ⟨W2, rfl, rfl⟩
    refine sl_as rfl rfl rfl ?_
    refine sl_nil ?_
    refine sw_ret ⟨rfl, _, _, res_one rfl rfl, ?_, ⟨W2, rfl, rfl⟩⟩
    repeat constructor
  have hn : ¬ n < 0 := of_decide_eq_false hn
  refine sw_skip ?_
  refine sw_seq ?_
  refine sl_region ?_
  refine sl_mv rfl rfl rfl ?_
  refine sl_mv rfl rfl rfl ?_
  refine sl_conv_int rfl rfl rfl is_2 u_37 ?_
  refine sl_bin rfl rfl rfl rfl rfl ?_
  refine sl_set 18 (.val (u64V (zig n))) (zig_pos h hn) ?_
  refine sl_callf rfl rfl cal_77 (wnum_ok l W (zig n) σ (zig_lt h) hl) ?_ ?_ ?_ (fun _ _ h => h.elim)
  · repeat constructor
  · repeat constructor
  rintro _ _ ⟨W2, rfl, rfl⟩
  refine sl_as rfl rfl rfl ?_
  refine sl_nil ?_
  refine sw_ret ⟨rfl, _, _, res_one rfl rfl, ?_, ⟨W2, rfl, rfl⟩⟩
  repeat constructor

theorem wtext_ok (l : List UInt8) (W : WL 1 l.length) (s : List UInt8) (σ : List Chunk) (hs : s.length ≤ 1000000) (hl : l.length + 1000010 ≤ 100000000) :
    FSpec Try.prog 39 [W.d, .val (strV s)] (W.k (brows l) :: σ) (fun d σ' => ∃ W' : WL 1 (l ++ encText s).length, d = W'.d ∧ σ' = W'.k (brows (l ++ encText s)) :: σ) := by
  refine spec_of_sw Try.func39 rfl ?_
  refine sw_seq ?_
  refine sl_region ?_
  refine sl_as rfl rfl rfl ?_
  refine sl_nil ?_
  refine sw_seq ?_
  refine sl_region ?_
  refine sl_mv rfl rfl rfl ?_
  refine sl_mv rfl rfl rfl ?_
  refine sl_len_str rfl rfl rfl u_9 ?_
  refine sl_conv_int rfl rfl rfl is_3 u_37 ?_
  refine sl_set 8 (.val (u64V s.length)) (congrArg (fun z => D.val (.int .u64 z)) (wrapped_u64 _ (by omega))) ?_
  have hel := encNum_len (n := s.length) (by omega)
  refine sl_callf rfl rfl cal_77 (wnum_ok l W s.length σ (by omega) (by omega)) ?_ ?_ ?_ (fun _ _ h => h.elim)
  · repeat constructor
  · repeat constructor
  rintro _ _ ⟨W2, rfl, rfl⟩
  refine sl_mv rfl rfl rfl ?_
  refine sl_app_bs (_) rfl rfl rfl rfl u_26 u_9 el_5 (by repeat constructor) (by simp; omega) ((by rw [← List.map_append, encText, List.append_assoc] : _ = (l ++ encText s).map byteV)) (fun v11 => ?_)
  refine sl_as rfl rfl rfl ?_
  refine sl_nil ?_
  refine sw_ret ⟨rfl, _, _, res_one rfl rfl, ?_, ⟨v11, rfl, rfl⟩⟩
  repeat constructor

/-- The document's bytes of a request, held by one alone. -/
theorem wbytes_ok (r : Req) (σ : List Chunk) (hok : ReqOk r) (hn : r.name.length ≤ 1000000) (ht : r.text.length ≤ 1000000) :
    FSpec Try.prog 49 [.val (reqV r)] σ (fun d σ' => ∃ W : WL 1 (encReq r).length, d = W.d ∧ σ' = W.k (brows (encReq r)) :: σ) := by
  refine spec_of_sw Try.func49 rfl ?_
  refine sw_seq ?_
  refine sl_region ?_
  refine sl_bx_imm rfl rfl rfl rfl rfl ?_
  refine sl_as rfl rfl rfl ?_
  refine sl_nil ?_
  refine sw_seq ?_
  refine sl_region ?_
  first
    | refine sl_fieldAddr_ptr rfl rfl rfl fo_89_0 ?_
    | refine sl_fieldAddr_rp rfl rfl rfl fo_89_0 ?_
    | refine sl_fieldAddr_ref rfl rfl rfl fo_89_0 ?_
  first
    | refine sl_load_rp1 rfl rfl rfl ag_3 rfl ?_
    | refine sl_load_blk1 rfl rfl rfl ag_3 (by repeat constructor) rfl ?_
  refine sl_max rfl rfl rfl rfl ?_
  refine sl_conv_int rfl rfl rfl is_3 u_37 ?_
  refine sl_set 7 (.val (u64V r.kind.toNat)) (max_u64 hok.1) ?_
  refine sl_callf rfl rfl cal_77 (spec_dummy (wnum_ok [] (WL.nil 1) r.kind.toNat σ (kind_lt hok.1) (by decide))) ?_ ?_ ?_ (fun _ _ h => h.elim)
  · repeat constructor
  · repeat constructor
  rintro _ _ ⟨W1, rfl, rfl⟩
  have h1 := encNum_len (kind_lt hok.1)
  refine sl_as rfl rfl rfl ?_
  refine sl_nil ?_
  refine sw_seq ?_
  refine sa_start [] mixed ?_
  refine sa_take 0 rfl rfl (by kernel_rfl) .nil (pu_mv rfl rfl) ?_
  first
    | refine sa_take 1 rfl rfl (by kernel_rfl) .nil (pu_fieldAddr_ptr rfl rfl fo_89_1) ?_
    | refine sa_take 1 rfl rfl (by kernel_rfl) .nil (pu_fieldAddr_rp rfl rfl fo_89_1) ?_
    | refine sa_take 1 rfl rfl (by kernel_rfl) .nil (pu_fieldAddr_ref rfl rfl fo_89_1) ?_
  refine sa_take 2 rfl rfl (by kernel_rfl) .nil (pu_load_rp1 rfl rfl ag_9 rfl) ?_
  first
    | refine sa_take 4 rfl rfl (by kernel_rfl) .nil (pu_fieldAddr_ptr rfl rfl fo_89_2) ?_
    | refine sa_take 4 rfl rfl (by kernel_rfl) .nil (pu_fieldAddr_rp rfl rfl fo_89_2) ?_
    | refine sa_take 4 rfl rfl (by kernel_rfl) .nil (pu_fieldAddr_ref rfl rfl fo_89_2) ?_
  refine sa_take 5 rfl rfl (by kernel_rfl) .nil (pu_load_rp1 rfl rfl ag_9 rfl) ?_
  first
    | refine sa_take 7 rfl rfl (by kernel_rfl) .nil (pu_fieldAddr_ptr rfl rfl fo_89_3) ?_
    | refine sa_take 7 rfl rfl (by kernel_rfl) .nil (pu_fieldAddr_rp rfl rfl fo_89_3) ?_
    | refine sa_take 7 rfl rfl (by kernel_rfl) .nil (pu_fieldAddr_ref rfl rfl fo_89_3) ?_
  refine sa_take 8 rfl rfl (by kernel_rfl) .nil (pu_load_rp1 rfl rfl ag_3 rfl) ?_
  refine sa_one 3 (by kernel_rfl) rfl ?_
  refine sl_callf rfl rfl cal_39 (wtext_ok (encNum r.kind.toNat) W1 r.name σ hn (by omega)) ?_ ?_ ?_ (fun _ _ h => h.elim)
  · repeat constructor
  · repeat constructor
  rintro _ _ ⟨W2, rfl, rfl⟩
  refine sl_nil ⟨.nil, ?_⟩
  have h2 := encText_lenc hn (by decide)
  refine sa_one 6 (by kernel_rfl) rfl ?_
  refine sl_callf rfl rfl cal_39 (wtext_ok (encNum r.kind.toNat ++ encText r.name) W2 r.text σ ht (by rw [List.length_append]; omega)) ?_ ?_ ?_ (fun _ _ h => h.elim)
  · repeat constructor
  · repeat constructor
  rintro _ _ ⟨W3, rfl, rfl⟩
  refine sl_nil ⟨.nil, ?_⟩
  have h3 := encText_lenc ht (by decide)
  refine sa_one 9 (by kernel_rfl) rfl ?_
  refine sl_callf rfl rfl cal_78 (wint_ok (encNum r.kind.toNat ++ encText r.name ++ encText r.text) W3 r.n σ hok.2 (by simp only [List.length_append]; omega)) ?_ ?_ ?_ (fun _ _ h => h.elim)
  · repeat constructor
  · repeat constructor
  rintro _ _ ⟨W4, rfl, rfl⟩
  refine sl_nil ⟨.nil, ?_⟩
  refine sa_one 10 (by kernel_rfl) rfl ?_
  refine sl_as rfl rfl rfl ?_
  refine sl_nil ⟨.nil, ?_⟩
  refine sa_done (by kernel_rfl) ?_
  refine sw_ret ⟨rfl, _, _, res_one rfl rfl, ?_, ⟨W4, rfl, rfl⟩⟩
  repeat constructor

end Go.Proofs.Ytioechdfghglhaa

/- Walks: printed by a program of this session out of its script ReqL. -/
namespace Go.Proofs.Ytioechdfghglhaa
set_option linter.unusedVariables false
set_option linter.unusedSimpArgs false
set_option maxRecDepth 4000
set_option maxHeartbeats 4000000
open Go Go.RowKit SL


theorem cov_req (n : Nat) : Covers Try.prog n 89 fun xs => ∃ a : Req, xs = (reqV a).cells ∧ ReqOk a := by
  cases n with
  | zero => exact covers_zero
  | succ n =>
    refine (covers_struct Try.underlying89 (Ss := [fun xs => ∃ a : Int, xs = (i64V a).cells ∧ isI64 a, fun xs => ∃ a : List UInt8, xs = (strV a).cells ∧ a.length ≤ maxLen,
        fun xs => ∃ a : List UInt8, xs = (strV a).cells ∧ a.length ≤ maxLen, fun xs => ∃ a : Int, xs = (i64V a).cells ∧ isI64 a])
      ⟨rfl, cov_i64 Try.underlying3 n, by kernel_rfl, cov_str Try.underlying9 n, by kernel_rfl, cov_str Try.underlying9 n, by kernel_rfl, cov_i64 Try.underlying3 n, show (_ : Nat) = _ by kernel_rfl⟩).mono fun xs h => ?_
    obtain ⟨_, _, rfl, ⟨k, rfl, h1⟩, _, _, rfl, ⟨s, rfl, _⟩, _, _, rfl, ⟨t, rfl, _⟩, _, _, rfl, ⟨i, rfl, h2⟩, rfl⟩ := h
    exact ⟨⟨k, s, t, i⟩, rfl, h1, h2⟩

theorem cov_rep (n : Nat) : Covers Try.prog n 97 fun xs => ∃ a : Rep, xs = (repV a).cells ∧ RepOk a := by
  cases n with
  | zero => exact covers_zero
  | succ n =>
    refine (covers_struct Try.underlying97 (Ss := [fun xs => ∃ a : Int, xs = (i64V a).cells ∧ isI64 a, fun xs => ∃ a : Int, xs = (i64V a).cells ∧ isI64 a, fun xs => ∃ a : Int, xs = (i64V a).cells ∧ isI64 a,
        fun xs => ∃ al : List Alm, xs = [.list (al.map almV)] ∧ (∀ a ∈ al, AlmOk a) ∧ al.length ≤ maxLen, fun xs => ∃ a : List UInt8, xs = (strV a).cells ∧ a.length ≤ maxLen, fun xs => ∃ a : Int, xs = (i64V a).cells ∧ isI64 a])
      ⟨rfl, cov_i64 Try.underlying3 n, by kernel_rfl, cov_i64 Try.underlying35 n, by kernel_rfl, cov_i64 Try.underlying3 n, by kernel_rfl, cov_alms n, by kernel_rfl, cov_str Try.underlying9 n, by kernel_rfl, cov_i64 Try.underlying3 n, show (_ : Nat) = _ by kernel_rfl⟩).mono fun xs h => ?_
    obtain ⟨_, _, rfl, ⟨k, rfl, h1⟩, _, _, rfl, ⟨e, rfl, h2⟩, _, _, rfl, ⟨p, rfl, h3⟩, _, _, rfl, ⟨al, rfl, h4, _⟩, _, _, rfl, ⟨t, rfl, _⟩, _, _, rfl, ⟨i, rfl, h5⟩, rfl⟩ := h
    exact ⟨⟨k, e, p, al, t, i⟩, rfl, h1, h2, h3, h5, h4⟩

end Go.Proofs.Ytioechdfghglhaa
