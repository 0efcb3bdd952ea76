/- Merged: the program logic, plain laws and walks (each part's first row says what it is); no conditions of its own. -/
import Derived.Test.YtioechdfghglhaaZ4
import Derived.Test.YtioechdfghglhaaZ3
import Derived.Test.YtioechdfghglhaaZ6

/- Walks: printed by a program of this session out of its script ReqA. -/
namespace Go.Proofs.Ytioechdfghglhaa
set_option linter.unusedVariables false
set_option linter.unusedSimpArgs false
set_option maxRecDepth 4000
set_option maxHeartbeats 4000000
open Go Go.RowKit SL


/-- kind reads a kind. -/
theorem rkind_ok (p q lo hi : Nat) (wr : Bool) (st : Option (List UInt8)) (c : Chunk) (σ : List Chunk) (h : Rdr q st c) (hhi : hi ≤ 1000) :
    FSpec Try.prog 88 [.ptr p 0, .val (u64V lo), .val (u64V hi)] (.blk p [.ptr q 0, .val (.bool wr)] :: c :: σ)
      (fun d σ' => ∃ k : Nat, ∃ wr' st' c', d = .val (.int .i64 (k : Int)) ∧ Out (decK lo hi) (eff wr st) k (eff wr' st') ∧ Rdr q st' c' ∧ σ' = .blk p [.ptr q 0, .val (.bool wr')] :: c' :: σ) := by
  refine spec_of_sw Try.func88 rfl ?_
  refine sw_seq ?_
  refine sl_region ?_
  refine sl_as rfl rfl rfl ?_
  refine sl_nil ?_
  refine sw_seq ?_
  refine sl_region ?_
  refine sl_mv rfl rfl rfl ?_
  refine sl_nc rfl rfl rfl rfl ?_
  first
    | refine sl_fieldAddr_ptr rfl rfl rfl fo_133_0 ?_
    | refine sl_fieldAddr_rp rfl rfl rfl fo_133_0 ?_
    | refine sl_fieldAddr_ref rfl rfl rfl fo_133_0 ?_
  first
    | refine sl_load_rp1 rfl rfl rfl ag_31 rfl ?_
    | refine sl_load_blk1 rfl rfl rfl ag_31 (by repeat constructor) rfl ?_
  refine sl_callf rfl rfl cal_33 (pNum_ok q st c (.blk p [.ptr q 0, .val (.bool wr)] :: σ) h) ?_ ?_ ?_ (fun _ _ h => h.elim)
  · repeat constructor
  · repeat constructor
  rintro _ _ ⟨rfl, c2, h2, rfl⟩
  have hlt : (rdOf (decN 0) 0 st).1 < 18446744073709551616 := rdOf_lt
  obtain ⟨n, hn⟩ : ∃ b, b = (rdOf (decN 0) 0 st).1 := ⟨_, rfl⟩
  rw [← hn] at hlt ⊢
  refine sl_as rfl rfl rfl ?_
  refine sl_nil ?_
  refine sw_seq ?_
  refine sl_region ?_
  refine sl_mv rfl rfl rfl ?_
  refine sl_mv rfl rfl rfl ?_
  refine sl_nc rfl rfl rfl rfl ?_
  first
    | refine sl_fieldAddr_ptr rfl rfl rfl fo_133_1 ?_
    | refine sl_fieldAddr_rp rfl rfl rfl fo_133_1 ?_
    | refine sl_fieldAddr_ref rfl rfl rfl fo_133_1 ?_
  first
    | refine sl_load_rp1 rfl rfl rfl ag_4 rfl ?_
    | refine sl_load_blk1 rfl rfl rfl ag_4 (by repeat constructor) rfl ?_
  refine sl_mv rfl rfl rfl ?_
  refine sl_case_at 18 rfl (fun hw => ?_) (fun hw => ?_)
  · have hw1 : wr = true := hw
    refine sl_guard_n rfl rfl rfl hw ?_
    refine sl_guard_n rfl rfl rfl hw ?_
    refine sl_guard_n rfl rfl rfl hw ?_
    refine sl_pk_t rfl rfl rfl hw rfl ?_
    refine sl_mv rfl rfl rfl ?_
    refine sl_guard_n rfl rfl rfl (rfl) ?_
    refine sl_guard_n rfl rfl rfl (rfl) ?_
    refine sl_guard_n rfl rfl rfl (rfl) ?_
    refine sl_pk_t rfl rfl rfl (rfl) rfl ?_
    refine sl_nc rfl rfl rfl rfl ?_
    first
      | refine sl_fieldAddr_ptr rfl rfl rfl fo_133_1 ?_
      | refine sl_fieldAddr_rp rfl rfl rfl fo_133_1 ?_
      | refine sl_fieldAddr_ref rfl rfl rfl fo_133_1 ?_
    refine sl_stp rfl rfl rfl rfl sz_4 rfl rfl rfl (by repeat constructor) (Nat.le_of_ble_eq_true rfl) ?_
    refine sl_nil ?_
    refine sw_seq ?_
    refine sl_region ?_
    refine sl_mv rfl rfl rfl ?_
    refine sl_bin rfl rfl rfl rfl rfl ?_
    refine sl_set 31 (.val (.int .u64 ((n % 2147483648 : Nat) : Int))) (low31 hlt) ?_
    refine sl_conv_int rfl rfl rfl is_37 u_3 ?_
    refine sl_set 32 (.val (.int .i64 ((n % 2147483648 : Nat) : Int))) (congrArg (fun z => D.val (.int .i64 z)) (wrap_i64 (n := ((n % 2147483648 : Nat) : Int)) (by omega) (by omega))) ?_
    refine sl_as rfl rfl rfl ?_
    refine sl_nil ?_
    refine sw_ret ⟨rfl, _, _, res_one rfl rfl, ?_, ⟨n % 2147483648, true, _, c2, rfl, kind_wrong (.inl hw1), h2, rfl⟩⟩
    repeat constructor
  have hw1 : wr = false := hw
  subst hw1
  refine sl_guard_y rfl rfl rfl hw ?_
  refine sl_mv rfl rfl rfl ?_
  refine sl_guard_y rfl rfl rfl hw ?_
  refine sl_mv rfl rfl rfl ?_
  refine sl_guard_y rfl rfl rfl hw ?_
  refine sl_bin rfl rfl rfl rfl rfl ?_
  refine sl_pk_f rfl rfl rfl hw rfl ?_
  refine sl_mv rfl rfl rfl ?_
  refine sl_case_at 23 rfl (fun ha => ?_) (fun ha => ?_)
  · have ha1 : ¬ lo ≤ n := by have := of_decide_eq_true ha; omega
    refine sl_guard_n rfl rfl rfl ha ?_
    refine sl_guard_n rfl rfl rfl ha ?_
    refine sl_guard_n rfl rfl rfl ha ?_
    refine sl_pk_t rfl rfl rfl ha rfl ?_
    refine sl_nc rfl rfl rfl rfl ?_
    first
      | refine sl_fieldAddr_ptr rfl rfl rfl fo_133_1 ?_
      | refine sl_fieldAddr_rp rfl rfl rfl fo_133_1 ?_
      | refine sl_fieldAddr_ref rfl rfl rfl fo_133_1 ?_
    refine sl_stp rfl rfl rfl rfl sz_4 rfl rfl rfl (by repeat constructor) (Nat.le_of_ble_eq_true rfl) ?_
    refine sl_nil ?_
    refine sw_seq ?_
    refine sl_region ?_
    refine sl_mv rfl rfl rfl ?_
    refine sl_bin rfl rfl rfl rfl rfl ?_
    refine sl_set 31 (.val (.int .u64 ((n % 2147483648 : Nat) : Int))) (low31 hlt) ?_
    refine sl_conv_int rfl rfl rfl is_37 u_3 ?_
    refine sl_set 32 (.val (.int .i64 ((n % 2147483648 : Nat) : Int))) (congrArg (fun z => D.val (.int .i64 z)) (wrap_i64 (n := ((n % 2147483648 : Nat) : Int)) (by omega) (by omega))) ?_
    refine sl_as rfl rfl rfl ?_
    refine sl_nil ?_
    refine sw_ret ⟨rfl, _, _, res_one rfl rfl, ?_, ⟨n % 2147483648, true, _, c2, rfl, kind_wrong (.inr (fun h => ha1 (by rw [hn]; exact h.1))), h2, rfl⟩⟩
    repeat constructor
  have ha1 : lo ≤ n := by have := of_decide_eq_false ha; omega
  refine sl_guard_y rfl rfl rfl ha ?_
  refine sl_mv rfl rfl rfl ?_
  refine sl_guard_y rfl rfl rfl ha ?_
  refine sl_mv rfl rfl rfl ?_
  refine sl_guard_y rfl rfl rfl ha ?_
  refine sl_bin rfl rfl rfl rfl rfl ?_
  refine sl_pk_f rfl rfl rfl ha rfl ?_
  refine sl_nc rfl rfl rfl rfl ?_
  first
    | refine sl_fieldAddr_ptr rfl rfl rfl fo_133_1 ?_
    | refine sl_fieldAddr_rp rfl rfl rfl fo_133_1 ?_
    | refine sl_fieldAddr_ref rfl rfl rfl fo_133_1 ?_
  refine sl_stp rfl rfl rfl rfl sz_4 rfl rfl rfl (by repeat constructor) (Nat.le_of_ble_eq_true rfl) ?_
  refine sl_nil ?_
  refine sw_seq ?_
  refine sl_region ?_
  refine sl_mv rfl rfl rfl ?_
  refine sl_bin rfl rfl rfl rfl rfl ?_
  refine sl_set 31 (.val (.int .u64 ((n % 2147483648 : Nat) : Int))) (low31 hlt) ?_
  refine sl_conv_int rfl rfl rfl is_37 u_3 ?_
  refine sl_set 32 (.val (.int .i64 ((n % 2147483648 : Nat) : Int))) (congrArg (fun z => D.val (.int .i64 z)) (wrap_i64 (n := ((n % 2147483648 : Nat) : Int)) (by omega) (by omega))) ?_
  refine sl_as rfl rfl rfl ?_
  refine sl_nil ?_
  refine sw_ret ⟨rfl, _, _, res_one rfl rfl, ?_, kind_last hn ha1 hhi h2⟩
  repeat constructor

/-- small reads a number of 32 bits. -/
theorem qsmall_ok (p q : Nat) (wr : Bool) (st : Option (List UInt8)) (c : Chunk) (σ : List Chunk) (h : Rdr q st c) :
    FSpec Try.prog 89 [.ptr p 0] (.blk p [.ptr q 0, .val (.bool wr)] :: c :: σ)
      (fun d σ' => ∃ n wr' st' c', d = .val (.int .i64 n) ∧ Out decS (eff wr st) n (eff wr' st') ∧ Rdr q st' c' ∧ σ' = .blk p [.ptr q 0, .val (.bool wr')] :: c' :: σ) := by
  refine spec_of_sw Try.func89 rfl ?_
  refine sw_seq ?_
  refine sl_region ?_
  refine sl_as rfl rfl rfl ?_
  refine sl_nil ?_
  refine sw_seq ?_
  refine sl_region ?_
  refine sl_mv rfl rfl rfl ?_
  refine sl_nc rfl rfl rfl rfl ?_
  first
    | refine sl_fieldAddr_ptr rfl rfl rfl fo_133_0 ?_
    | refine sl_fieldAddr_rp rfl rfl rfl fo_133_0 ?_
    | refine sl_fieldAddr_ref rfl rfl rfl fo_133_0 ?_
  first
    | refine sl_load_rp1 rfl rfl rfl ag_31 rfl ?_
    | refine sl_load_blk1 rfl rfl rfl ag_31 (by repeat constructor) rfl ?_
  refine sl_callf rfl rfl cal_20 (pInt_ok q st c (.blk p [.ptr q 0, .val (.bool wr)] :: σ) h) ?_ ?_ ?_ (fun _ _ h => h.elim)
  · repeat constructor
  · repeat constructor
  rintro _ _ ⟨rfl, c2, h2, rfl⟩
  refine sl_as rfl rfl rfl ?_
  refine sl_nil ?_
  refine sw_seq ?_
  refine sl_region ?_
  refine sl_mv rfl rfl rfl ?_
  refine sl_mv rfl rfl rfl ?_
  refine sl_nc rfl rfl rfl rfl ?_
  first
    | refine sl_fieldAddr_ptr rfl rfl rfl fo_133_1 ?_
    | refine sl_fieldAddr_rp rfl rfl rfl fo_133_1 ?_
    | refine sl_fieldAddr_ref rfl rfl rfl fo_133_1 ?_
  first
    | refine sl_load_rp1 rfl rfl rfl ag_4 rfl ?_
    | refine sl_load_blk1 rfl rfl rfl ag_4 (by repeat constructor) rfl ?_
  refine sl_mv rfl rfl rfl ?_
  refine sl_case_at 14 rfl (fun hw => ?_) (fun hw => ?_)
  · have hw1 : wr = true := hw
    refine sl_guard_n rfl rfl rfl hw ?_
    refine sl_guard_n rfl rfl rfl hw ?_
    refine sl_pk_t rfl rfl rfl hw rfl ?_
    refine sl_mv rfl rfl rfl ?_
    refine sl_guard_n rfl rfl rfl (rfl) ?_
    refine sl_guard_n rfl rfl rfl (rfl) ?_
    refine sl_pk_t rfl rfl rfl (rfl) rfl ?_
    refine sl_nc rfl rfl rfl rfl ?_
    first
      | refine sl_fieldAddr_ptr rfl rfl rfl fo_133_1 ?_
      | refine sl_fieldAddr_rp rfl rfl rfl fo_133_1 ?_
      | refine sl_fieldAddr_ref rfl rfl rfl fo_133_1 ?_
    refine sl_stp rfl rfl rfl rfl sz_4 rfl rfl rfl (by repeat constructor) (Nat.le_of_ble_eq_true rfl) ?_
    refine sl_nil ?_
    refine sw_seq ?_
    refine sl_region ?_
    refine sl_mv rfl rfl rfl ?_
    refine sl_as rfl rfl rfl ?_
    refine sl_nil ?_
    refine sw_ret ⟨rfl, _, _, res_one rfl rfl, ?_, ⟨_, true, _, c2, rfl, small_wrong (.inl hw1), h2, rfl⟩⟩
    repeat constructor
  have hw1 : wr = false := hw
  subst hw1
  refine sl_guard_y rfl rfl rfl hw ?_
  refine sl_mv rfl rfl rfl ?_
  refine sl_guard_y rfl rfl rfl hw ?_
  refine sl_bin rfl rfl rfl rfl rfl ?_
  refine sl_pk_f rfl rfl rfl hw rfl ?_
  refine sl_mv rfl rfl rfl ?_
  refine sl_case_at 18 rfl (fun ha => ?_) (fun ha => ?_)
  · refine sl_guard_n rfl rfl rfl ha ?_
    refine sl_guard_n rfl rfl rfl ha ?_
    refine sl_pk_t rfl rfl rfl ha rfl ?_
    refine sl_nc rfl rfl rfl rfl ?_
    first
      | refine sl_fieldAddr_ptr rfl rfl rfl fo_133_1 ?_
      | refine sl_fieldAddr_rp rfl rfl rfl fo_133_1 ?_
      | refine sl_fieldAddr_ref rfl rfl rfl fo_133_1 ?_
    refine sl_stp rfl rfl rfl rfl sz_4 rfl rfl rfl (by repeat constructor) (Nat.le_of_ble_eq_true rfl) ?_
    refine sl_nil ?_
    refine sw_seq ?_
    refine sl_region ?_
    refine sl_mv rfl rfl rfl ?_
    refine sl_as rfl rfl rfl ?_
    refine sl_nil ?_
    refine sw_ret ⟨rfl, _, _, res_one rfl rfl, ?_, ⟨_, true, _, c2, rfl, small_wrong (.inr (fun h => by have := of_decide_eq_true ha; have := h.1; omega)), h2, rfl⟩⟩
    repeat constructor
  refine sl_guard_y rfl rfl rfl ha ?_
  refine sl_mv rfl rfl rfl ?_
  refine sl_guard_y rfl rfl rfl ha ?_
  refine sl_bin rfl rfl rfl rfl rfl ?_
  refine sl_pk_f rfl rfl rfl ha rfl ?_
  refine sl_nc rfl rfl rfl rfl ?_
  first
    | refine sl_fieldAddr_ptr rfl rfl rfl fo_133_1 ?_
    | refine sl_fieldAddr_rp rfl rfl rfl fo_133_1 ?_
    | refine sl_fieldAddr_ref rfl rfl rfl fo_133_1 ?_
  refine sl_stp rfl rfl rfl rfl sz_4 rfl rfl rfl (by repeat constructor) (Nat.le_of_ble_eq_true rfl) ?_
  refine sl_nil ?_
  refine sw_seq ?_
  refine sl_region ?_
  refine sl_mv rfl rfl rfl ?_
  refine sl_as rfl rfl rfl ?_
  refine sl_nil ?_
  refine sw_ret ⟨rfl, _, _, res_one rfl rfl, ?_, small_last (by have := of_decide_eq_false ha; omega) h2⟩
  repeat constructor

end Go.Proofs.Ytioechdfghglhaa

/- Walks: printed by a program of this session out of its script ReqB. -/
namespace Go.Proofs.Ytioechdfghglhaa
set_option linter.unusedVariables false
set_option linter.unusedSimpArgs false
set_option maxRecDepth 4000
set_option maxHeartbeats 4000000
open Go Go.RowKit SL


/-- Bytes tells a request's bytes. -/
theorem qbytes_ok (r : Req) (σ : List Chunk) (hok : ReqOk r) (hn : r.name.length ≤ 1000000) (ht : r.text.length ≤ 1000000) :
    FSpec Try.prog 56 [.val (reqV r)] σ (fun d σ' => d = .val (.list ((encReq r).map byteV)) ∧ σ' = σ) := by
  refine spec_of_sw Try.func56 rfl ?_
  refine sw_seq ?_
  refine sl_region ?_
  refine sl_bx_imm rfl rfl rfl rfl rfl ?_
  refine sl_as rfl rfl rfl ?_
  refine sl_nil ?_
  refine sw_seq ?_
  refine sl_region ?_
  refine sl_callf rfl rfl cal_16 (newWriter_ok σ) ?_ ?_ ?_ (fun _ _ h => h.elim)
  · repeat constructor
  · repeat constructor
  rintro _ _ ⟨p, v, rfl, rfl⟩
  refine sl_as rfl rfl rfl ?_
  refine sl_nil ?_
  refine sw_seq ?_
  refine sa_start [] mixed ?_
  refine sa_take 0 rfl rfl (by kernel_rfl) .nil (pu_mv rfl rfl) ?_
  refine sa_take 1 rfl rfl (by kernel_rfl) .nil (pu_nc rfl rfl rfl) ?_
  first
    | refine sa_take 2 rfl rfl (by kernel_rfl) .nil (pu_fieldAddr_ptr rfl rfl fo_30_0) ?_
    | refine sa_take 2 rfl rfl (by kernel_rfl) .nil (pu_fieldAddr_rp rfl rfl fo_30_0) ?_
    | refine sa_take 2 rfl rfl (by kernel_rfl) .nil (pu_fieldAddr_ref rfl rfl fo_30_0) ?_
  first
    | refine sa_take 3 rfl rfl (by kernel_rfl) .nil (pu_fieldAddr_ptr rfl rfl fo_89_0) ?_
    | refine sa_take 3 rfl rfl (by kernel_rfl) .nil (pu_fieldAddr_rp rfl rfl fo_89_0) ?_
    | refine sa_take 3 rfl rfl (by kernel_rfl) .nil (pu_fieldAddr_ref rfl rfl fo_89_0) ?_
  refine sa_take 4 rfl rfl (by kernel_rfl) .nil (pu_load_rp1 rfl rfl ag_3 rfl) ?_
  refine sa_take 5 rfl rfl (by kernel_rfl) .nil (pu_max rfl rfl rfl) ?_
  refine sa_take 6 rfl rfl (by kernel_rfl) .nil (pu_conv_int rfl rfl is_3 u_37) ?_
  refine sa_set 11 (.val (u64V r.kind.toNat)) (max_u64 hok.1) ?_
  refine sa_one 7 (by kernel_rfl) rfl ?_
  refine sl_bs1 rfl rfl (.cons rfl .nil) u_51 sz_37 zs_37 (by decide) rfl rfl rfl rfl ?_
  refine sl_nil ⟨.nil, ?_⟩
  refine sa_one 8 (by kernel_rfl) rfl ?_
  refine sl_callf rfl rfl cal_28 (num_ok p v [] [r.kind.toNat] σ (by intro n hn; rw [List.mem_singleton.mp hn]; exact kind_lt hok.1) (by simp only [List.length_cons, List.length_nil]; omega)) ?_ ?_ ?_ (fun _ _ h => h.elim)
  · repeat constructor
  · repeat constructor
  rintro _ _ ⟨rfl, v2, rfl⟩
  refine sl_nil ⟨.nil, ?_⟩
  have e1 : ([] : List UInt8) ++ [r.kind.toNat].flatMap encNum = encNum r.kind.toNat := by simp
  rw [e1]
  have h1 := encNum_len (kind_lt hok.1)
  refine sa_done (by kernel_rfl) ?_
  refine sw_seq ?_
  refine sa_start [] mixed ?_
  refine sa_take 0 rfl rfl (by kernel_rfl) .nil (pu_mv rfl rfl) ?_
  refine sa_take 1 rfl rfl (by kernel_rfl) .nil (pu_nc rfl rfl rfl) ?_
  first
    | refine sa_take 2 rfl rfl (by kernel_rfl) .nil (pu_fieldAddr_ptr rfl rfl fo_30_0) ?_
    | refine sa_take 2 rfl rfl (by kernel_rfl) .nil (pu_fieldAddr_rp rfl rfl fo_30_0) ?_
    | refine sa_take 2 rfl rfl (by kernel_rfl) .nil (pu_fieldAddr_ref rfl rfl fo_30_0) ?_
  first
    | refine sa_take 3 rfl rfl (by kernel_rfl) .nil (pu_fieldAddr_ptr rfl rfl fo_89_1) ?_
    | refine sa_take 3 rfl rfl (by kernel_rfl) .nil (pu_fieldAddr_rp rfl rfl fo_89_1) ?_
    | refine sa_take 3 rfl rfl (by kernel_rfl) .nil (pu_fieldAddr_ref rfl rfl fo_89_1) ?_
  refine sa_take 4 rfl rfl (by kernel_rfl) .nil (pu_load_rp1 rfl rfl ag_9 rfl) ?_
  first
    | refine sa_take 5 rfl rfl (by kernel_rfl) .nil (pu_fieldAddr_ptr rfl rfl fo_89_2) ?_
    | refine sa_take 5 rfl rfl (by kernel_rfl) .nil (pu_fieldAddr_rp rfl rfl fo_89_2) ?_
    | refine sa_take 5 rfl rfl (by kernel_rfl) .nil (pu_fieldAddr_ref rfl rfl fo_89_2) ?_
  refine sa_take 6 rfl rfl (by kernel_rfl) .nil (pu_load_rp1 rfl rfl ag_9 rfl) ?_
  refine sa_one 7 (by kernel_rfl) rfl ?_
  refine sl_bs1 rfl rfl (.cons rfl (.cons rfl .nil)) u_53 sz_9 zs_9 (by decide) rfl rfl rfl rfl ?_
  refine sl_nil ⟨.nil, ?_⟩
  refine sa_one 8 (by kernel_rfl) rfl ?_
  refine sl_callf rfl rfl cal_29 (text_ok p v2 (encNum r.kind.toNat) [r.name, r.text] 1000000 σ (by intro s hs; simp at hs; rcases hs with rfl | rfl; exact hn; exact ht) (by simp only [List.length_cons, List.length_nil]; omega)) ?_ ?_ ?_ (fun _ _ h => h.elim)
  · repeat constructor
  · repeat constructor
  rintro _ _ ⟨rfl, v3, rfl⟩
  refine sl_nil ⟨.nil, ?_⟩
  have e2 : encNum r.kind.toNat ++ [r.name, r.text].flatMap encText = encNum r.kind.toNat ++ encText r.name ++ encText r.text := by simp
  rw [e2]
  have h2 := encText_lenc hn (by decide)
  have h3 := encText_lenc ht (by decide)
  refine sa_done (by kernel_rfl) ?_
  refine sw_seq ?_
  refine sa_start [] mixed ?_
  refine sa_take 0 rfl rfl (by kernel_rfl) .nil (pu_mv rfl rfl) ?_
  refine sa_take 1 rfl rfl (by kernel_rfl) .nil (pu_nc rfl rfl rfl) ?_
  first
    | refine sa_take 2 rfl rfl (by kernel_rfl) .nil (pu_fieldAddr_ptr rfl rfl fo_30_0) ?_
    | refine sa_take 2 rfl rfl (by kernel_rfl) .nil (pu_fieldAddr_rp rfl rfl fo_30_0) ?_
    | refine sa_take 2 rfl rfl (by kernel_rfl) .nil (pu_fieldAddr_ref rfl rfl fo_30_0) ?_
  first
    | refine sa_take 3 rfl rfl (by kernel_rfl) .nil (pu_fieldAddr_ptr rfl rfl fo_89_3) ?_
    | refine sa_take 3 rfl rfl (by kernel_rfl) .nil (pu_fieldAddr_rp rfl rfl fo_89_3) ?_
    | refine sa_take 3 rfl rfl (by kernel_rfl) .nil (pu_fieldAddr_ref rfl rfl fo_89_3) ?_
  refine sa_take 4 rfl rfl (by kernel_rfl) .nil (pu_load_rp1 rfl rfl ag_3 rfl) ?_
  refine sa_one 5 (by kernel_rfl) rfl ?_
  refine sl_bs1 rfl rfl (.cons rfl .nil) u_52 sz_2 zs_2 (by decide) rfl rfl rfl rfl ?_
  refine sl_nil ⟨.nil, ?_⟩
  refine sa_one 6 (by kernel_rfl) rfl ?_
  refine sl_callf rfl rfl cal_17 (int_ok p v3 (encNum r.kind.toNat ++ encText r.name ++ encText r.text) [r.n] σ (by intro n hn; rw [List.mem_singleton.mp hn]; exact hok.2) (by simp only [List.length_append, List.length_cons, List.length_nil]; omega)) ?_ ?_ ?_ (fun _ _ h => h.elim)
  · repeat constructor
  · repeat constructor
  rintro _ _ ⟨rfl, v4, rfl⟩
  refine sl_nil ⟨.nil, ?_⟩
  have e3 : encNum r.kind.toNat ++ encText r.name ++ encText r.text ++ [r.n].flatMap encInt = encReq r := by simp [encReq]
  rw [e3]
  have h4 := encReq_len hok (c := 1000000) (by decide) hn ht
  refine sa_done (by kernel_rfl) ?_
  refine sw_seq ?_
  refine sl_region ?_
  refine sl_mv rfl rfl rfl ?_
  refine sl_nc rfl rfl rfl rfl ?_
  first
    | refine sl_fieldAddr_ptr rfl rfl rfl fo_30_0 ?_
    | refine sl_fieldAddr_rp rfl rfl rfl fo_30_0 ?_
    | refine sl_fieldAddr_ref rfl rfl rfl fo_30_0 ?_
  refine sl_callf rfl rfl cal_19 (bytes_ok p v4 (encReq r) (.spare v4 1 :: σ) (by omega)) ?_ ?_ ?_ (fun _ _ h => h.elim)
  · repeat constructor
  · repeat constructor
  rintro _ _ ⟨rfl, rfl⟩
  refine sl_as rfl rfl rfl ?_
  refine sl_nil ?_
  refine sw_ret ⟨rfl, _, _, res_one rfl rfl, ?_, ⟨rfl, rfl⟩⟩
  repeat constructor

/-- ReplyBytes tells a reply's bytes. -/
theorem qreply_ok (r : Rep) (σ : List Chunk) (hok : RepOk r) (hn : r.alarms.length ≤ 1000) (ht : r.text.length ≤ 1000000) :
    FSpec Try.prog 57 [.val (repV r)] σ (fun d σ' => d = .val (.list ((encRep r).map byteV)) ∧ σ' = σ) := by
  obtain ⟨hk, he, hp, hnn, ha⟩ := hok
  refine spec_of_sw Try.func57 rfl ?_
  refine sw_seq ?_
  refine sl_region ?_
  refine sl_bx_imm rfl rfl rfl rfl rfl ?_
  refine sl_as rfl rfl rfl ?_
  refine sl_nil ?_
  refine sw_seq ?_
  refine sl_region ?_
  refine sl_callf rfl rfl cal_16 (newWriter_ok σ) ?_ ?_ ?_ (fun _ _ h => h.elim)
  · repeat constructor
  · repeat constructor
  rintro _ _ ⟨p, v, rfl, rfl⟩
  refine sl_as rfl rfl rfl ?_
  refine sl_nil ?_
  refine sw_seq ?_
  refine sa_start [] mixed ?_
  refine sa_take 0 rfl rfl (by kernel_rfl) .nil (pu_mv rfl rfl) ?_
  refine sa_take 1 rfl rfl (by kernel_rfl) .nil (pu_nc rfl rfl rfl) ?_
  first
    | refine sa_take 2 rfl rfl (by kernel_rfl) .nil (pu_fieldAddr_ptr rfl rfl fo_30_0) ?_
    | refine sa_take 2 rfl rfl (by kernel_rfl) .nil (pu_fieldAddr_rp rfl rfl fo_30_0) ?_
    | refine sa_take 2 rfl rfl (by kernel_rfl) .nil (pu_fieldAddr_ref rfl rfl fo_30_0) ?_
  first
    | refine sa_take 3 rfl rfl (by kernel_rfl) .nil (pu_fieldAddr_ptr rfl rfl fo_97_0) ?_
    | refine sa_take 3 rfl rfl (by kernel_rfl) .nil (pu_fieldAddr_rp rfl rfl fo_97_0) ?_
    | refine sa_take 3 rfl rfl (by kernel_rfl) .nil (pu_fieldAddr_ref rfl rfl fo_97_0) ?_
  refine sa_take 4 rfl rfl (by kernel_rfl) .nil (pu_load_rp1 rfl rfl ag_3 rfl) ?_
  refine sa_take 5 rfl rfl (by kernel_rfl) .nil (pu_max rfl rfl rfl) ?_
  refine sa_take 6 rfl rfl (by kernel_rfl) .nil (pu_conv_int rfl rfl is_3 u_37) ?_
  refine sa_set 13 (.val (u64V r.kind.toNat)) (max_u64 hk) ?_
  refine sa_one 7 (by kernel_rfl) rfl ?_
  refine sl_bs1 rfl rfl (.cons rfl .nil) u_51 sz_37 zs_37 (by decide) rfl rfl rfl rfl ?_
  refine sl_nil ⟨.nil, ?_⟩
  refine sa_one 8 (by kernel_rfl) rfl ?_
  refine sl_callf rfl rfl cal_28 (num_ok p v [] [r.kind.toNat] σ (by intro n hn; rw [List.mem_singleton.mp hn]; exact kind_lt hk) (by simp only [List.length_cons, List.length_nil]; omega)) ?_ ?_ ?_ (fun _ _ h => h.elim)
  · repeat constructor
  · repeat constructor
  rintro _ _ ⟨rfl, v2, rfl⟩
  refine sl_nil ⟨.nil, ?_⟩
  have e1 : ([] : List UInt8) ++ [r.kind.toNat].flatMap encNum = encNum r.kind.toNat := by simp
  rw [e1]
  have h1 := encNum_len (kind_lt hk)
  refine sa_done (by kernel_rfl) ?_
  refine sw_seq ?_
  refine sa_start [] mixed ?_
  refine sa_take 0 rfl rfl (by kernel_rfl) .nil (pu_mv rfl rfl) ?_
  refine sa_take 1 rfl rfl (by kernel_rfl) .nil (pu_nc rfl rfl rfl) ?_
  first
    | refine sa_take 2 rfl rfl (by kernel_rfl) .nil (pu_fieldAddr_ptr rfl rfl fo_30_0) ?_
    | refine sa_take 2 rfl rfl (by kernel_rfl) .nil (pu_fieldAddr_rp rfl rfl fo_30_0) ?_
    | refine sa_take 2 rfl rfl (by kernel_rfl) .nil (pu_fieldAddr_ref rfl rfl fo_30_0) ?_
  first
    | refine sa_take 3 rfl rfl (by kernel_rfl) .nil (pu_fieldAddr_ptr rfl rfl fo_97_1) ?_
    | refine sa_take 3 rfl rfl (by kernel_rfl) .nil (pu_fieldAddr_rp rfl rfl fo_97_1) ?_
    | refine sa_take 3 rfl rfl (by kernel_rfl) .nil (pu_fieldAddr_ref rfl rfl fo_97_1) ?_
  refine sa_take 4 rfl rfl (by kernel_rfl) .nil (pu_load_rp1 rfl rfl ag_35 rfl) ?_
  first
    | refine sa_take 5 rfl rfl (by kernel_rfl) .nil (pu_fieldAddr_ptr rfl rfl fo_97_2) ?_
    | refine sa_take 5 rfl rfl (by kernel_rfl) .nil (pu_fieldAddr_rp rfl rfl fo_97_2) ?_
    | refine sa_take 5 rfl rfl (by kernel_rfl) .nil (pu_fieldAddr_ref rfl rfl fo_97_2) ?_
  refine sa_take 6 rfl rfl (by kernel_rfl) .nil (pu_load_rp1 rfl rfl ag_3 rfl) ?_
  refine sa_one 7 (by kernel_rfl) rfl ?_
  refine sl_bs1 rfl rfl (.cons rfl (.cons rfl .nil)) u_52 sz_2 zs_2 (by decide) rfl rfl rfl rfl ?_
  refine sl_nil ⟨.nil, ?_⟩
  refine sa_one 8 (by kernel_rfl) rfl ?_
  refine sl_callf rfl rfl cal_17 (int_ok p v2 (encNum r.kind.toNat) [r.err, r.pos] σ (by intro n hn; simp at hn; rcases hn with rfl | rfl; exact he; exact hp) (by simp only [List.length_cons, List.length_nil]; omega)) ?_ ?_ ?_ (fun _ _ h => h.elim)
  · repeat constructor
  · repeat constructor
  rintro _ _ ⟨rfl, v3, rfl⟩
  refine sl_nil ⟨.nil, ?_⟩
  have e2 : encNum r.kind.toNat ++ [r.err, r.pos].flatMap encInt = encNum r.kind.toNat ++ encInt r.err ++ encInt r.pos := by simp
  rw [e2]
  have h2 := encInt_len he
  have h3 := encInt_len hp
  obtain ⟨m1, hm1⟩ : ∃ m1, m1 = encNum r.kind.toNat ++ encInt r.err ++ encInt r.pos := ⟨_, rfl⟩
  have hl1 : m1.length ≤ 30 := by rw [hm1]; simp only [List.length_append]; omega
  rw [← hm1]
  refine sa_done (by kernel_rfl) ?_
  refine sw_seq ?_
  refine sa_start [] mixed ?_
  refine sa_take 0 rfl rfl (by kernel_rfl) .nil (pu_mv rfl rfl) ?_
  refine sa_take 1 rfl rfl (by kernel_rfl) .nil (pu_nc rfl rfl rfl) ?_
  first
    | refine sa_take 2 rfl rfl (by kernel_rfl) .nil (pu_fieldAddr_ptr rfl rfl fo_30_0) ?_
    | refine sa_take 2 rfl rfl (by kernel_rfl) .nil (pu_fieldAddr_rp rfl rfl fo_30_0) ?_
    | refine sa_take 2 rfl rfl (by kernel_rfl) .nil (pu_fieldAddr_ref rfl rfl fo_30_0) ?_
  first
    | refine sa_take 3 rfl rfl (by kernel_rfl) .nil (pu_fieldAddr_ptr rfl rfl fo_97_3) ?_
    | refine sa_take 3 rfl rfl (by kernel_rfl) .nil (pu_fieldAddr_rp rfl rfl fo_97_3) ?_
    | refine sa_take 3 rfl rfl (by kernel_rfl) .nil (pu_fieldAddr_ref rfl rfl fo_97_3) ?_
  refine sa_take 4 rfl rfl (by kernel_rfl) .nil (pu_load_rp1 rfl rfl ag_67 rfl) ?_
  first
    | refine sa_take 5 rfl rfl (by kernel_rfl) .nil (pu_len rfl rfl ⟨_, u_67⟩) ?_
    | refine sa_take 5 rfl rfl (by kernel_rfl) .nil (pu_len_sl rfl rfl ⟨_, u_67⟩) ?_
    | refine sa_take 5 rfl rfl (by kernel_rfl) .nil (pu_len_w _ rfl rfl ⟨_, u_67⟩) ?_
  refine sa_take 6 rfl rfl (by kernel_rfl) .nil (pu_conv_int rfl rfl is_3 u_37) ?_
  refine sa_set 31 (.val (u64V r.alarms.length)) (len_u64m almV (by omega)) ?_
  refine sa_one 7 (by kernel_rfl) rfl ?_
  refine sl_bs1 rfl rfl (.cons rfl .nil) u_51 sz_37 zs_37 (by decide) rfl rfl rfl rfl ?_
  refine sl_nil ⟨.nil, ?_⟩
  refine sa_one 8 (by kernel_rfl) rfl ?_
  refine sl_callf rfl rfl cal_28 (num_ok p v3 m1 [r.alarms.length] σ (by intro n hn; rw [List.mem_singleton.mp hn]; omega) (by simp only [List.length_cons, List.length_nil]; omega)) ?_ ?_ ?_ (fun _ _ h => h.elim)
  · repeat constructor
  · repeat constructor
  rintro _ _ ⟨rfl, v4, rfl⟩
  refine sl_nil ⟨.nil, ?_⟩
  have e3 : m1 ++ [r.alarms.length].flatMap encNum = m1 ++ encNum r.alarms.length := by simp
  rw [e3]
  have h4 := encNum_len (n := r.alarms.length) (by omega)
  refine sa_done (by kernel_rfl) ?_
  refine sw_seq ?_
  refine sw_seq ?_
  refine sl_region ?_
  first
    | refine sl_fieldAddr_ptr rfl rfl rfl fo_97_3 ?_
    | refine sl_fieldAddr_rp rfl rfl rfl fo_97_3 ?_
    | refine sl_fieldAddr_ref rfl rfl rfl fo_97_3 ?_
  first
    | refine sl_load_rp1 rfl rfl rfl ag_67 rfl ?_
    | refine sl_load_blk1 rfl rfl rfl ag_67 (by repeat constructor) rfl ?_
  first
    | refine sl_len rfl rfl rfl ⟨_, u_67⟩ ?_
    | refine sl_len_sl rfl rfl rfl ⟨_, u_67⟩ ?_
    | refine sl_len_w _ rfl rfl rfl ⟨_, u_67⟩ ?_
  refine sl_set 36 (.val (.int .i64 (r.alarms.length : Int))) (len_eq (List.length_map ..)) ?_
  refine sl_mv rfl rfl rfl ?_
  refine sl_nil ?_
  refine sw_block ?_
  refine sw_loopw (fun nX sX δX σX => ∃ (j : Nat) (v : Value) (m : List UInt8), (r.alarms.length - j) = nX ∧ sX = ⟨69, (.cons 1 (.rp [.int .i64 r.kind, .int .i64 r.err, .int .i64 r.pos, .list (r.alarms.map almV), .str r.text, .int .i64 r.n]) (.cons 3 (.ptr p 0) (.cons 35 (.val (.list (r.alarms.map almV))) (.cons 36 (.val (.int .i64 (r.alarms.length : Int))) (.cons 37 (.val (.int .i64 (j : Int))) .nil)))))⟩ ∧ δX = [] ∧ σX = .blk p [.own v (m.map byteV)] :: .spare v 1 :: σ ∧ (j ≤ r.alarms.length) ∧ (m = m1 ++ encNum r.alarms.length ++ (r.alarms.take j).flatMap encAlarm)) ?_ ?_
  · refine ⟨_, _, _, ?_, ?_, 0, v4, m1 ++ encNum r.alarms.length, rfl, rfl, rfl, rfl, Nat.zero_le _, by simp⟩
    · exact ⟨rfl, by repeat constructor⟩
    · repeat constructor
  rintro nX sX δX σX ⟨j, v, m, rfl, rfl, rfl, rfl, hj0, hm2⟩
  refine sw_seq ?_
  refine sl_region ?_
  refine sl_bin rfl rfl rfl rfl rfl ?_
  refine sl_nil ?_
  refine sw_seq ?_
  refine sw_cond rfl (fun hj => ?_) (fun hj => ?_)
  · have hj : j < r.alarms.length := by simpa using hj
    have hao1 := ha r.alarms[j] (List.getElem_mem hj)
    have hm2l : m.length + 100 ≤ 100000000 := by
      have := flat_len (f := encAlarm) (c := 20) (ns := r.alarms) (fun a h => encAlarm_len (ha a h)) j
      rw [hm2]; simp only [List.length_append]; omega
    refine sw_skip ?_
    refine sw_seq ?_
    refine sw_block ?_
    refine sw_seq ?_
    refine sl_region ?_
    refine sl_indexAddr' rfl rfl rfl rfl u_67 sz_86 (by omega) (idx_map hj) rfl ?_
    first
      | refine sl_load_rpn rfl rfl rfl ag_86 sz_86 (Nat.le_of_ble_eq_true rfl) ?_
      | refine sl_load_blkn rfl rfl rfl ag_86 sz_86 (by repeat constructor) (Nat.le_of_ble_eq_true rfl) ?_
      | refine sl_load_ref rfl rfl rfl ag_86 sz_86 (Nat.le_of_ble_eq_true rfl) ?_
    refine sl_alloc rfl rfl zd_86 (fun b5 => ?_)
    refine sl_stp rfl rfl rfl rfl sz_86 rfl rfl rfl (by repeat constructor) (Nat.le_of_ble_eq_true rfl) ?_
    refine sl_nil ?_
    refine sw_freeze (t := 5) rfl rfl ?_
    refine sa_start [] mixed ?_
    refine sa_take 0 rfl rfl (by kernel_rfl) .nil (pu_mv rfl rfl) ?_
    refine sa_take 1 rfl rfl (by kernel_rfl) .nil (pu_nc rfl rfl rfl) ?_
    first
      | refine sa_take 2 rfl rfl (by kernel_rfl) .nil (pu_fieldAddr_ptr rfl rfl fo_30_0) ?_
      | refine sa_take 2 rfl rfl (by kernel_rfl) .nil (pu_fieldAddr_rp rfl rfl fo_30_0) ?_
      | refine sa_take 2 rfl rfl (by kernel_rfl) .nil (pu_fieldAddr_ref rfl rfl fo_30_0) ?_
    first
      | refine sa_take 3 rfl rfl (by kernel_rfl) .nil (pu_fieldAddr_ptr rfl rfl fo_86_0) ?_
      | refine sa_take 3 rfl rfl (by kernel_rfl) .nil (pu_fieldAddr_rp rfl rfl fo_86_0) ?_
      | refine sa_take 3 rfl rfl (by kernel_rfl) .nil (pu_fieldAddr_ref rfl rfl fo_86_0) ?_
    refine sa_take 4 rfl rfl (by kernel_rfl) .nil (pu_load_rp1 rfl rfl ag_3 rfl) ?_
    first
      | refine sa_take 5 rfl rfl (by kernel_rfl) .nil (pu_fieldAddr_ptr rfl rfl fo_86_1) ?_
      | refine sa_take 5 rfl rfl (by kernel_rfl) .nil (pu_fieldAddr_rp rfl rfl fo_86_1) ?_
      | refine sa_take 5 rfl rfl (by kernel_rfl) .nil (pu_fieldAddr_ref rfl rfl fo_86_1) ?_
    refine sa_take 6 rfl rfl (by kernel_rfl) .nil (pu_load_rp1 rfl rfl ag_3 rfl) ?_
    refine sa_one 7 (by kernel_rfl) rfl ?_
    refine sl_bs1 rfl rfl (.cons rfl (.cons rfl .nil)) u_52 sz_2 zs_2 (by decide) rfl rfl rfl rfl ?_
    refine sl_nil ⟨.nil, ?_⟩
    refine sa_one 8 (by kernel_rfl) rfl ?_
    refine sl_callf rfl rfl cal_17 (int_ok p v m [r.alarms[j].pos, r.alarms[j].kind] σ (by intro n hn; simp at hn; rcases hn with rfl | rfl; exact hao1.1; exact hao1.2) (by simp only [List.length_cons, List.length_nil]; omega)) ?_ ?_ ?_ (fun _ _ h => h.elim)
    · repeat constructor
    · repeat constructor
    rintro _ _ ⟨rfl, v5, rfl⟩
    refine sl_nil ⟨.nil, ?_⟩
    refine sa_done (by kernel_rfl) ?_
    refine sl_region ?_
    first
      | refine sl_inc rfl rfl rfl rfl (by omega) ?_
      | refine sl_add rfl rfl rfl rfl (by constructor <;> omega) ?_
      | refine sl_bin rfl rfl rfl rfl rfl ?_
    refine sl_mv rfl rfl rfl ?_
    refine sl_nil ?_
    have e2 : m ++ [r.alarms[j].pos, r.alarms[j].kind].flatMap encInt = m1 ++ encNum r.alarms.length ++ (r.alarms.take (j + 1)).flatMap encAlarm := by
      rw [flat_snoc hj, hm2]; simp [encAlarm]
    refine ⟨_, by omega, _, _, ?_, ?_, j + 1, v5, _, rfl, rfl, rfl, rfl, by omega, e2⟩
    · exact ⟨rfl, by repeat constructor⟩
    · repeat constructor
  have hj : j = r.alarms.length := by have h9 : ¬ j < r.alarms.length := (by simpa using hj); omega
  subst hj
  rw [List.take_length] at hm2
  have ha1 := flat_allc (f := encAlarm) (c := 20) (ns := r.alarms) (fun a h => encAlarm_len (ha a h))
  have hm2l : m.length ≤ 30000 := by rw [hm2]; simp only [List.length_append]; omega
  refine sw_exit ?_
  refine sw_seq ?_
  refine sa_start [] mixed ?_
  refine sa_take 0 rfl rfl (by kernel_rfl) .nil (pu_mv rfl rfl) ?_
  refine sa_take 1 rfl rfl (by kernel_rfl) .nil (pu_nc rfl rfl rfl) ?_
  first
    | refine sa_take 2 rfl rfl (by kernel_rfl) .nil (pu_fieldAddr_ptr rfl rfl fo_30_0) ?_
    | refine sa_take 2 rfl rfl (by kernel_rfl) .nil (pu_fieldAddr_rp rfl rfl fo_30_0) ?_
    | refine sa_take 2 rfl rfl (by kernel_rfl) .nil (pu_fieldAddr_ref rfl rfl fo_30_0) ?_
  first
    | refine sa_take 3 rfl rfl (by kernel_rfl) .nil (pu_fieldAddr_ptr rfl rfl fo_97_4) ?_
    | refine sa_take 3 rfl rfl (by kernel_rfl) .nil (pu_fieldAddr_rp rfl rfl fo_97_4) ?_
    | refine sa_take 3 rfl rfl (by kernel_rfl) .nil (pu_fieldAddr_ref rfl rfl fo_97_4) ?_
  refine sa_take 4 rfl rfl (by kernel_rfl) .nil (pu_load_rp1 rfl rfl ag_9 rfl) ?_
  refine sa_one 5 (by kernel_rfl) rfl ?_
  refine sl_bs1 rfl rfl (.cons rfl .nil) u_53 sz_9 zs_9 (by decide) rfl rfl rfl rfl ?_
  refine sl_nil ⟨.nil, ?_⟩
  refine sa_one 6 (by kernel_rfl) rfl ?_
  refine sl_callf rfl rfl cal_29 (text_ok p v m [r.text] 1000000 σ (by intro s hs; rw [List.mem_singleton.mp hs]; exact ht) (by simp only [List.length_cons, List.length_nil]; omega)) ?_ ?_ ?_ (fun _ _ h => h.elim)
  · repeat constructor
  · repeat constructor
  rintro _ _ ⟨rfl, v6, rfl⟩
  refine sl_nil ⟨.nil, ?_⟩
  have e4 : m ++ [r.text].flatMap encText = m ++ encText r.text := by simp
  rw [e4]
  have h5 := encText_lenc ht (by decide)
  refine sa_done (by kernel_rfl) ?_
  refine sw_seq ?_
  refine sa_start [] mixed ?_
  refine sa_take 0 rfl rfl (by kernel_rfl) .nil (pu_mv rfl rfl) ?_
  refine sa_take 1 rfl rfl (by kernel_rfl) .nil (pu_nc rfl rfl rfl) ?_
  first
    | refine sa_take 2 rfl rfl (by kernel_rfl) .nil (pu_fieldAddr_ptr rfl rfl fo_30_0) ?_
    | refine sa_take 2 rfl rfl (by kernel_rfl) .nil (pu_fieldAddr_rp rfl rfl fo_30_0) ?_
    | refine sa_take 2 rfl rfl (by kernel_rfl) .nil (pu_fieldAddr_ref rfl rfl fo_30_0) ?_
  first
    | refine sa_take 3 rfl rfl (by kernel_rfl) .nil (pu_fieldAddr_ptr rfl rfl fo_97_5) ?_
    | refine sa_take 3 rfl rfl (by kernel_rfl) .nil (pu_fieldAddr_rp rfl rfl fo_97_5) ?_
    | refine sa_take 3 rfl rfl (by kernel_rfl) .nil (pu_fieldAddr_ref rfl rfl fo_97_5) ?_
  refine sa_take 4 rfl rfl (by kernel_rfl) .nil (pu_load_rp1 rfl rfl ag_3 rfl) ?_
  refine sa_one 5 (by kernel_rfl) rfl ?_
  refine sl_bs1 rfl rfl (.cons rfl .nil) u_52 sz_2 zs_2 (by decide) rfl rfl rfl rfl ?_
  refine sl_nil ⟨.nil, ?_⟩
  refine sa_one 6 (by kernel_rfl) rfl ?_
  refine sl_callf rfl rfl cal_17 (int_ok p v6 (m ++ encText r.text) [r.n] σ (by intro n hn; rw [List.mem_singleton.mp hn]; exact hnn) (by simp only [List.length_append, List.length_cons, List.length_nil]; omega)) ?_ ?_ ?_ (fun _ _ h => h.elim)
  · repeat constructor
  · repeat constructor
  rintro _ _ ⟨rfl, v7, rfl⟩
  refine sl_nil ⟨.nil, ?_⟩
  have e5 : m ++ encText r.text ++ [r.n].flatMap encInt = encRep r := by rw [hm2, hm1]; simp [encRep, encAlarms]
  rw [e5]
  have h6 := encRep_len ⟨hk, he, hp, hnn, ha⟩ (c := 1000000) (by decide) ht hn
  refine sa_done (by kernel_rfl) ?_
  refine sw_seq ?_
  refine sl_region ?_
  refine sl_mv rfl rfl rfl ?_
  refine sl_nc rfl rfl rfl rfl ?_
  first
    | refine sl_fieldAddr_ptr rfl rfl rfl fo_30_0 ?_
    | refine sl_fieldAddr_rp rfl rfl rfl fo_30_0 ?_
    | refine sl_fieldAddr_ref rfl rfl rfl fo_30_0 ?_
  refine sl_callf rfl rfl cal_19 (bytes_ok p v7 (encRep r) (.spare v7 1 :: σ) (by omega)) ?_ ?_ ?_ (fun _ _ h => h.elim)
  · repeat constructor
  · repeat constructor
  rintro _ _ ⟨rfl, rfl⟩
  refine sl_as rfl rfl rfl ?_
  refine sl_nil ?_
  refine sw_ret ⟨rfl, _, _, res_one rfl rfl, ?_, ⟨rfl, rfl⟩⟩
  repeat constructor

/-- The document's bytes of a request. -/
theorem dbytes_ok (r : Req) (σ : List Chunk) (hok : ReqOk r) (hn : r.name.length ≤ 1000000) (ht : r.text.length ≤ 1000000) :
    FSpec Try.prog 49 [.val (reqV r)] σ (fun d σ' => ∃ v, d = .own v ((encReq r).map byteV) ∧ σ' = .spare v 1 :: σ) := by
  refine spec_of_sw Try.func49 rfl ?_
  refine sw_seq ?_
  refine sl_region ?_
  refine sl_bx_imm rfl rfl rfl rfl rfl ?_
  refine sl_as rfl rfl rfl ?_
  refine sl_nil ?_
  refine sw_seq ?_
  refine sl_region ?_
  first
    | refine sl_fieldAddr_ptr rfl rfl rfl fo_89_0 ?_
    | refine sl_fieldAddr_rp rfl rfl rfl fo_89_0 ?_
    | refine sl_fieldAddr_ref rfl rfl rfl fo_89_0 ?_
  first
    | refine sl_load_rp1 rfl rfl rfl ag_3 rfl ?_
    | refine sl_load_blk1 rfl rfl rfl ag_3 (by repeat constructor) rfl ?_
  refine sl_max rfl rfl rfl rfl ?_
  refine sl_conv_int rfl rfl rfl is_3 u_37 ?_
  refine sl_set 7 (.val (u64V r.kind.toNat)) (max_u64 hok.1) ?_
  refine sl_callf rfl rfl cal_77 (spec_own_first (fun v => xnum_ok v [] r.kind.toNat σ (kind_lt hok.1) (by decide))) ?_ ?_ ?_ (fun _ _ h => h.elim)
  · repeat constructor
  · repeat constructor
  rintro _ _ ⟨v1, rfl, rfl⟩
  rw [List.nil_append]
  have h1 := encNum_len (kind_lt hok.1)
  refine sl_as rfl rfl rfl ?_
  refine sl_nil ?_
  refine sw_seq ?_
  refine sa_start [] mixed ?_
  refine sa_take 0 rfl rfl (by kernel_rfl) .nil (pu_mv rfl rfl) ?_
  first
    | refine sa_take 1 rfl rfl (by kernel_rfl) .nil (pu_fieldAddr_ptr rfl rfl fo_89_1) ?_
    | refine sa_take 1 rfl rfl (by kernel_rfl) .nil (pu_fieldAddr_rp rfl rfl fo_89_1) ?_
    | refine sa_take 1 rfl rfl (by kernel_rfl) .nil (pu_fieldAddr_ref rfl rfl fo_89_1) ?_
  refine sa_take 2 rfl rfl (by kernel_rfl) .nil (pu_load_rp1 rfl rfl ag_9 rfl) ?_
  first
    | refine sa_take 4 rfl rfl (by kernel_rfl) .nil (pu_fieldAddr_ptr rfl rfl fo_89_2) ?_
    | refine sa_take 4 rfl rfl (by kernel_rfl) .nil (pu_fieldAddr_rp rfl rfl fo_89_2) ?_
    | refine sa_take 4 rfl rfl (by kernel_rfl) .nil (pu_fieldAddr_ref rfl rfl fo_89_2) ?_
  refine sa_take 5 rfl rfl (by kernel_rfl) .nil (pu_load_rp1 rfl rfl ag_9 rfl) ?_
  first
    | refine sa_take 7 rfl rfl (by kernel_rfl) .nil (pu_fieldAddr_ptr rfl rfl fo_89_3) ?_
    | refine sa_take 7 rfl rfl (by kernel_rfl) .nil (pu_fieldAddr_rp rfl rfl fo_89_3) ?_
    | refine sa_take 7 rfl rfl (by kernel_rfl) .nil (pu_fieldAddr_ref rfl rfl fo_89_3) ?_
  refine sa_take 8 rfl rfl (by kernel_rfl) .nil (pu_load_rp1 rfl rfl ag_3 rfl) ?_
  refine sa_one 3 (by kernel_rfl) rfl ?_
  refine sl_callf rfl rfl cal_39 (xtext_ok v1 (encNum r.kind.toNat) r.name σ hn (by omega)) ?_ ?_ ?_ (fun _ _ h => h.elim)
  · repeat constructor
  · repeat constructor
  rintro _ _ ⟨v2, rfl, rfl⟩
  refine sl_nil ⟨.nil, ?_⟩
  have h2 := encText_lenc hn (by decide)
  refine sa_one 6 (by kernel_rfl) rfl ?_
  refine sl_callf rfl rfl cal_39 (xtext_ok v2 (encNum r.kind.toNat ++ encText r.name) r.text σ ht (by rw [List.length_append]; omega)) ?_ ?_ ?_ (fun _ _ h => h.elim)
  · repeat constructor
  · repeat constructor
  rintro _ _ ⟨v3, rfl, rfl⟩
  refine sl_nil ⟨.nil, ?_⟩
  have h3 := encText_lenc ht (by decide)
  refine sa_one 9 (by kernel_rfl) rfl ?_
  refine sl_callf rfl rfl cal_78 (xint_ok v3 (encNum r.kind.toNat ++ encText r.name ++ encText r.text) r.n σ hok.2 (by simp only [List.length_append]; omega)) ?_ ?_ ?_ (fun _ _ h => h.elim)
  · repeat constructor
  · repeat constructor
  rintro _ _ ⟨v4, rfl, rfl⟩
  refine sl_nil ⟨.nil, ?_⟩
  refine sa_one 10 (by kernel_rfl) rfl ?_
  refine sl_as rfl rfl rfl ?_
  refine sl_nil ⟨.nil, ?_⟩
  refine sa_done (by kernel_rfl) ?_
  refine sw_ret ⟨rfl, _, _, res_one rfl rfl, ?_, ⟨v4, rfl, rfl⟩⟩
  repeat constructor

/-- The document's bytes of a reply. -/
theorem dreply_ok (r : Rep) (σ : List Chunk) (hok : RepOk r) (hn : r.alarms.length ≤ 1000) (ht : r.text.length ≤ 1000000) :
    FSpec Try.prog 58 [.val (repV r)] σ (fun d σ' => ∃ v, d = .own v ((encRep r).map byteV) ∧ σ' = .spare v 1 :: σ) := by
  obtain ⟨hk, he, hp, hnn, ha⟩ := hok
  refine spec_of_sw Try.func58 rfl ?_
  refine sw_seq ?_
  refine sl_region ?_
  refine sl_bx_imm rfl rfl rfl rfl rfl ?_
  refine sl_as rfl rfl rfl ?_
  refine sl_nil ?_
  refine sw_seq ?_
  refine sl_region ?_
  first
    | refine sl_fieldAddr_ptr rfl rfl rfl fo_97_0 ?_
    | refine sl_fieldAddr_rp rfl rfl rfl fo_97_0 ?_
    | refine sl_fieldAddr_ref rfl rfl rfl fo_97_0 ?_
  first
    | refine sl_load_rp1 rfl rfl rfl ag_3 rfl ?_
    | refine sl_load_blk1 rfl rfl rfl ag_3 (by repeat constructor) rfl ?_
  refine sl_max rfl rfl rfl rfl ?_
  refine sl_conv_int rfl rfl rfl is_3 u_37 ?_
  refine sl_set 7 (.val (u64V r.kind.toNat)) (max_u64 hk) ?_
  refine sl_callf rfl rfl cal_77 (spec_own_first (fun v => xnum_ok v [] r.kind.toNat σ (kind_lt hk) (by decide))) ?_ ?_ ?_ (fun _ _ h => h.elim)
  · repeat constructor
  · repeat constructor
  rintro _ _ ⟨v1, rfl, rfl⟩
  rw [List.nil_append]
  have h1 := encNum_len (kind_lt hk)
  refine sl_as rfl rfl rfl ?_
  refine sl_nil ?_
  refine sw_seq ?_
  refine sa_start [] mixed ?_
  refine sa_take 0 rfl rfl (by kernel_rfl) .nil (pu_mv rfl rfl) ?_
  first
    | refine sa_take 1 rfl rfl (by kernel_rfl) .nil (pu_fieldAddr_ptr rfl rfl fo_97_1) ?_
    | refine sa_take 1 rfl rfl (by kernel_rfl) .nil (pu_fieldAddr_rp rfl rfl fo_97_1) ?_
    | refine sa_take 1 rfl rfl (by kernel_rfl) .nil (pu_fieldAddr_ref rfl rfl fo_97_1) ?_
  refine sa_take 2 rfl rfl (by kernel_rfl) .nil (pu_load_rp1 rfl rfl ag_35 rfl) ?_
  first
    | refine sa_take 4 rfl rfl (by kernel_rfl) .nil (pu_fieldAddr_ptr rfl rfl fo_97_2) ?_
    | refine sa_take 4 rfl rfl (by kernel_rfl) .nil (pu_fieldAddr_rp rfl rfl fo_97_2) ?_
    | refine sa_take 4 rfl rfl (by kernel_rfl) .nil (pu_fieldAddr_ref rfl rfl fo_97_2) ?_
  refine sa_take 5 rfl rfl (by kernel_rfl) .nil (pu_load_rp1 rfl rfl ag_3 rfl) ?_
  refine sa_one 3 (by kernel_rfl) rfl ?_
  refine sl_callf rfl rfl cal_78 (xint_ok v1 (encNum r.kind.toNat) r.err σ he (by omega)) ?_ ?_ ?_ (fun _ _ h => h.elim)
  · repeat constructor
  · repeat constructor
  rintro _ _ ⟨v2, rfl, rfl⟩
  refine sl_nil ⟨.nil, ?_⟩
  have h2 := encInt_len he
  refine sa_one 6 (by kernel_rfl) rfl ?_
  refine sl_callf rfl rfl cal_78 (xint_ok v2 (encNum r.kind.toNat ++ encInt r.err) r.pos σ hp (by rw [List.length_append]; omega)) ?_ ?_ ?_ (fun _ _ h => h.elim)
  · repeat constructor
  · repeat constructor
  rintro _ _ ⟨v3, rfl, rfl⟩
  refine sl_nil ⟨.nil, ?_⟩
  have h3 := encInt_len hp
  refine sa_one 7 (by kernel_rfl) rfl ?_
  refine sl_as rfl rfl rfl ?_
  refine sl_nil ⟨.nil, ?_⟩
  refine sa_done (by kernel_rfl) ?_
  refine sw_seq ?_
  refine sa_start [] mixed ?_
  refine sa_take 0 rfl rfl (by kernel_rfl) .nil (pu_mv rfl rfl) ?_
  first
    | refine sa_take 1 rfl rfl (by kernel_rfl) .nil (pu_fieldAddr_ptr rfl rfl fo_97_3) ?_
    | refine sa_take 1 rfl rfl (by kernel_rfl) .nil (pu_fieldAddr_rp rfl rfl fo_97_3) ?_
    | refine sa_take 1 rfl rfl (by kernel_rfl) .nil (pu_fieldAddr_ref rfl rfl fo_97_3) ?_
  refine sa_take 2 rfl rfl (by kernel_rfl) .nil (pu_load_rp1 rfl rfl ag_67 rfl) ?_
  first
    | refine sa_take 4 rfl rfl (by kernel_rfl) .nil (pu_fieldAddr_ptr rfl rfl fo_97_4) ?_
    | refine sa_take 4 rfl rfl (by kernel_rfl) .nil (pu_fieldAddr_rp rfl rfl fo_97_4) ?_
    | refine sa_take 4 rfl rfl (by kernel_rfl) .nil (pu_fieldAddr_ref rfl rfl fo_97_4) ?_
  refine sa_take 5 rfl rfl (by kernel_rfl) .nil (pu_load_rp1 rfl rfl ag_9 rfl) ?_
  first
    | refine sa_take 7 rfl rfl (by kernel_rfl) .nil (pu_fieldAddr_ptr rfl rfl fo_97_5) ?_
    | refine sa_take 7 rfl rfl (by kernel_rfl) .nil (pu_fieldAddr_rp rfl rfl fo_97_5) ?_
    | refine sa_take 7 rfl rfl (by kernel_rfl) .nil (pu_fieldAddr_ref rfl rfl fo_97_5) ?_
  refine sa_take 8 rfl rfl (by kernel_rfl) .nil (pu_load_rp1 rfl rfl ag_3 rfl) ?_
  refine sa_one 3 (by kernel_rfl) rfl ?_
  refine sl_callf rfl rfl cal_91 (xalarms_ok v3 (encNum r.kind.toNat ++ encInt r.err ++ encInt r.pos) r.alarms σ ha (by omega) (by simp only [List.length_append]; omega)) ?_ ?_ ?_ (fun _ _ h => h.elim)
  · repeat constructor
  · repeat constructor
  rintro _ _ ⟨v4, rfl, rfl⟩
  refine sl_nil ⟨.nil, ?_⟩
  have h4 := encAlarms_len ha (by omega)
  refine sa_one 6 (by kernel_rfl) rfl ?_
  refine sl_callf rfl rfl cal_39 (xtext_ok v4 (encNum r.kind.toNat ++ encInt r.err ++ encInt r.pos ++ encAlarms r.alarms) r.text σ ht (by simp only [List.length_append]; omega)) ?_ ?_ ?_ (fun _ _ h => h.elim)
  · repeat constructor
  · repeat constructor
  rintro _ _ ⟨v5, rfl, rfl⟩
  refine sl_nil ⟨.nil, ?_⟩
  have h5 := encText_lenc ht (by decide)
  refine sa_one 9 (by kernel_rfl) rfl ?_
  refine sl_callf rfl rfl cal_78 (xint_ok v5 (encNum r.kind.toNat ++ encInt r.err ++ encInt r.pos ++ encAlarms r.alarms ++ encText r.text) r.n σ hnn (by simp only [List.length_append]; omega)) ?_ ?_ ?_ (fun _ _ h => h.elim)
  · repeat constructor
  · repeat constructor
  rintro _ _ ⟨v6, rfl, rfl⟩
  refine sl_nil ⟨.nil, ?_⟩
  refine sa_one 10 (by kernel_rfl) rfl ?_
  refine sl_as rfl rfl rfl ?_
  refine sl_nil ⟨.nil, ?_⟩
  refine sa_done (by kernel_rfl) ?_
  refine sw_ret ⟨rfl, _, _, res_one rfl rfl, ?_, ⟨v6, rfl, rfl⟩⟩
  repeat constructor

end Go.Proofs.Ytioechdfghglhaa

/- Walks: printed by a program of this session out of its script ReqC. -/
namespace Go.Proofs.Ytioechdfghglhaa
set_option linter.unusedVariables false
set_option linter.unusedSimpArgs false
set_option maxRecDepth 4000
set_option maxHeartbeats 4000000
open Go Go.RowKit SL


abbrev zeroQ : List D := [.val (.int .i64 0), .val (.str []), .val (.str []), .val (.int .i64 0)]
abbrev zeroY : List D := [.val (.int .i64 0), .val (.int .i64 0), .val (.int .i64 0), .fix [], .val (.str []), .val (.int .i64 0)]


/-- Open reads a request. -/
theorem qopen_ok (b : List UInt8) (σ : List Chunk) (hb : b.length ≤ 1000000) :
    FSpec Try.prog 50 [.val (.list (b.map byteV))] σ (fun d σ' => d = .tup [.val (reqV ((openReq b).getD noReq)), .val (.int .i64 (errOf (openReq b)))] ∧ σ' = σ) := by
  refine spec_of_sw Try.func50 rfl ?_
  refine sw_seq ?_
  refine sl_region ?_
  refine sl_alloc rfl rfl zd_89 (fun b2 => ?_)
  refine sl_as rfl rfl rfl ?_
  refine sl_nil ?_
  refine sw_seq ?_
  refine sw_seq ?_
  refine sl_region ?_
  refine sl_mv rfl rfl rfl ?_
  first
    | refine sl_len rfl rfl rfl ⟨_, u_26⟩ ?_
    | refine sl_len_sl rfl rfl rfl ⟨_, u_26⟩ ?_
    | refine sl_len_w _ rfl rfl rfl ⟨_, u_26⟩ ?_
  refine sl_bin rfl rfl rfl rfl rfl ?_
  refine sl_nil ?_
  refine sw_cond rfl (fun hg => ?_) (fun hg => ?_)
  · have hg1 : b.length > 8192 := by have := of_decide_eq_true hg; rw [List.length_map] at this; omega
    refine sw_seq ?_
    refine sl_region ?_
    refine sl_bd rfl rfl .nil bi_89 zd_89 rfl ?_
    refine sl_stp rfl rfl rfl rfl sz_89 rfl rfl rfl (by repeat constructor) (Nat.le_of_ble_eq_true rfl) ?_
    refine sl_as rfl rfl rfl ?_
    refine sl_nil ?_
    refine sw_ret ⟨rfl, _, _, ResD.weaks (ds' := [.val (reqV noReq), .val (.int .i64 80)]) (res_mix (rs := [.cell 2 89, .tmp 3]) rfl (by decide) (.celln rfl ag_89 sz_89 (by repeat constructor) (Nat.le_of_ble_eq_true rfl) (.tmp rfl .nil))) (by repeat constructor), ?_, by rw [openReq_long hg1]; exact ⟨rfl, rfl⟩⟩
    repeat constructor
  have hg1 : ¬ b.length > 8192 := by have := of_decide_eq_false hg; rw [List.length_map] at this; omega
  refine sw_skip ?_
  refine sw_seq ?_
  refine sl_region ?_
  refine sl_mv rfl rfl rfl ?_
  refine sl_callf rfl rfl cal_18 (newReader_ok b (.blk b2 zeroQ :: σ) (by omega)) ?_ ?_ ?_ (fun _ _ h => h.elim)
  · repeat constructor
  · repeat constructor
  rintro _ _ ⟨q, rfl, rfl⟩
  refine sl_bd rfl rfl (.cons rfl .nil) bi_133 zd_133 rfl ?_
  refine sl_bx rfl rfl rfl rfl (fun b13 => ?_)
  refine sl_as rfl rfl rfl ?_
  refine sl_nil ?_
  refine sw_seq ?_
  refine sw_cutx (fun sX δX σX => ∃ (k : Nat) (wr1 : Bool) (st1 : Option (List UInt8)) (c3 : Chunk) (b5 : Nat), sX = ⟨44, (.cons 2 (.ptr b2 0) (.cons 4 (.ptr b13 0) (.cons 5 (.ptr b5 0) .nil)))⟩ ∧ δX = [] ∧ σX = .blk b13 [.ptr q 0, .val (.bool wr1)] :: c3 :: .blk b5 [.val (.int .i64 (k : Int)), .val (strV (rdOf decT [] st1).1), .val (strV (rdOf decT [] (rdOf decT [] st1).2).1), .val (.int .i64 0)] :: .blk b2 zeroQ :: σ ∧ (Out (decK 1 7) (eff false (some b)) k (eff wr1 st1)) ∧ (Rdr q (rdOf decT [] (rdOf decT [] st1).2).2 c3)) ?_ ?_
  · refine sa_start [(b13, 0, .pointer (some ⟨q, 0, none⟩))] mixed ?_
    refine sa_take 0 rfl rfl (by kernel_rfl) (by repeat constructor) (pu_mv rfl rfl) ?_
    refine sa_take 2 rfl rfl (by kernel_rfl) (by repeat constructor) (pu_mv rfl rfl) ?_
    refine sa_take 3 rfl rfl (by kernel_rfl) (by repeat constructor) (pu_nc rfl rfl rfl) ?_
    first
      | refine sa_take 4 rfl rfl (by kernel_rfl) (by repeat constructor) (pu_fieldAddr_ptr rfl rfl fo_133_0) ?_
      | refine sa_take 4 rfl rfl (by kernel_rfl) (by repeat constructor) (pu_fieldAddr_rp rfl rfl fo_133_0) ?_
      | refine sa_take 4 rfl rfl (by kernel_rfl) (by repeat constructor) (pu_fieldAddr_ref rfl rfl fo_133_0) ?_
    first
      | refine sa_take 5 rfl rfl (by kernel_rfl) (by repeat constructor) (pu_load_rp1 rfl rfl ag_31 rfl) ?_
      | refine sa_take 5 rfl rfl (by kernel_rfl) (by repeat constructor) (pu_load_blk1 rfl rfl ag_31 (by repeat constructor) (by first | exact fun _ _ _ => .val _ _ (.int _ _) | exact fun _ _ _ => .val _ _ (.bool _) | exact fun _ _ _ => .ptr _ _ | assumption)) ?_
    refine sa_take 7 rfl rfl (by kernel_rfl) (by repeat constructor) (pu_mv rfl rfl) ?_
    refine sa_take 8 rfl rfl (by kernel_rfl) (by repeat constructor) (pu_nc rfl rfl rfl) ?_
    first
      | refine sa_take 9 rfl rfl (by kernel_rfl) (by repeat constructor) (pu_fieldAddr_ptr rfl rfl fo_133_0) ?_
      | refine sa_take 9 rfl rfl (by kernel_rfl) (by repeat constructor) (pu_fieldAddr_rp rfl rfl fo_133_0) ?_
      | refine sa_take 9 rfl rfl (by kernel_rfl) (by repeat constructor) (pu_fieldAddr_ref rfl rfl fo_133_0) ?_
    first
      | refine sa_take 10 rfl rfl (by kernel_rfl) (by repeat constructor) (pu_load_rp1 rfl rfl ag_31 rfl) ?_
      | refine sa_take 10 rfl rfl (by kernel_rfl) (by repeat constructor) (pu_load_blk1 rfl rfl ag_31 (by repeat constructor) (by first | exact fun _ _ _ => .val _ _ (.int _ _) | exact fun _ _ _ => .val _ _ (.bool _) | exact fun _ _ _ => .ptr _ _ | assumption)) ?_
    refine sa_two 1 13 (by kernel_rfl) rfl rfl ?_ ?_
    · refine sl_callf rfl rfl cal_88 (rkind_ok b13 q 1 7 false (some b) (rd q b false) (.blk b2 zeroQ :: σ) ⟨rfl, by omega⟩ (by decide)) ?_ ?_ ?_ (fun _ _ h => h.elim)
      · repeat constructor
      · repeat constructor
      rintro _ _ ⟨k, wr1, st1, c1, rfl, o1, h1, rfl⟩
      refine sl_nil ⟨(by repeat constructor), ?_⟩
      refine sa_two 6 13 (by kernel_rfl) rfl rfl ?_ ?_
      · refine sl_callf rfl rfl cal_32 (pText_ok q st1 c1 (.blk b13 [.ptr q 0, .val (.bool wr1)] :: .blk b2 zeroQ :: σ) h1) ?_ ?_ ?_ (fun _ _ h => h.elim)
        · repeat constructor
        · repeat constructor
        rintro _ _ ⟨rfl, c2, h2, rfl⟩
        refine sl_nil ⟨(by repeat constructor), ?_⟩
        refine sa_two 11 13 (by kernel_rfl) rfl rfl ?_ ?_
        · refine sl_callf rfl rfl cal_32 (pText_ok q (rdOf decT [] st1).2 c2 (.blk b13 [.ptr q 0, .val (.bool wr1)] :: .blk b2 zeroQ :: σ) h2) ?_ ?_ ?_ (fun _ _ h => h.elim)
          · repeat constructor
          · repeat constructor
          rintro _ _ ⟨rfl, c3, h3, rfl⟩
          refine sl_nil ⟨(by repeat constructor), ?_⟩
          refine sa_take 12 rfl rfl (by kernel_rfl) (by repeat constructor) (pu_bd rfl (.cons rfl (.cons rfl (.cons rfl .nil))) bi_89 zd_89 rfl) ?_
          refine sa_one 13 (by kernel_rfl) rfl ?_
          refine sl_alloc rfl rfl zd_89 (fun b5 => ?_)
          refine sl_nil ⟨(by repeat constructor), ?_⟩
          refine sa_one 14 (by kernel_rfl) rfl ?_
          refine sl_stp rfl rfl rfl rfl sz_89 rfl rfl rfl (by repeat constructor) (Nat.le_of_ble_eq_true rfl) ?_
          refine sl_nil ⟨(by repeat constructor), ?_⟩
          refine sa_done (by kernel_rfl) ?_
          refine ⟨_, _, ?_, ?_, k, wr1, st1, c3, b5, rfl, rfl, rfl, o1, h3⟩
          · exact ⟨rfl, by repeat constructor⟩
          · repeat constructor
        refine sl_alloc rfl rfl zd_89 (fun b5 => ?_)
        refine sl_nil ⟨(by repeat constructor), ?_⟩
        refine sa_one 11 (by kernel_rfl) rfl ?_
        refine sl_callf rfl rfl cal_32 (pText_ok q (rdOf decT [] st1).2 c2 (.blk b13 [.ptr q 0, .val (.bool wr1)] :: .blk b5 zeroQ :: .blk b2 zeroQ :: σ) h2) ?_ ?_ ?_ (fun _ _ h => h.elim)
        · repeat constructor
        · repeat constructor
        rintro _ _ ⟨rfl, c3, h3, rfl⟩
        refine sl_nil ⟨(by repeat constructor), ?_⟩
        refine sa_take 12 rfl rfl (by kernel_rfl) (by repeat constructor) (pu_bd rfl (.cons rfl (.cons rfl (.cons rfl .nil))) bi_89 zd_89 rfl) ?_
        refine sa_one 14 (by kernel_rfl) rfl ?_
        refine sl_stp rfl rfl rfl rfl sz_89 rfl rfl rfl (by repeat constructor) (Nat.le_of_ble_eq_true rfl) ?_
        refine sl_nil ⟨(by repeat constructor), ?_⟩
        refine sa_done (by kernel_rfl) ?_
        refine ⟨_, _, ?_, ?_, k, wr1, st1, c3, b5, rfl, rfl, rfl, o1, h3⟩
        · exact ⟨rfl, by repeat constructor⟩
        · repeat constructor
      refine sl_alloc rfl rfl zd_89 (fun b5 => ?_)
      refine sl_nil ⟨(by repeat constructor), ?_⟩
      refine sa_one 6 (by kernel_rfl) rfl ?_
      refine sl_callf rfl rfl cal_32 (pText_ok q st1 c1 (.blk b13 [.ptr q 0, .val (.bool wr1)] :: .blk b5 zeroQ :: .blk b2 zeroQ :: σ) h1) ?_ ?_ ?_ (fun _ _ h => h.elim)
      · repeat constructor
      · repeat constructor
      rintro _ _ ⟨rfl, c2, h2, rfl⟩
      refine sl_nil ⟨(by repeat constructor), ?_⟩
      refine sa_one 11 (by kernel_rfl) rfl ?_
      refine sl_callf rfl rfl cal_32 (pText_ok q (rdOf decT [] st1).2 c2 (.blk b13 [.ptr q 0, .val (.bool wr1)] :: .blk b5 zeroQ :: .blk b2 zeroQ :: σ) h2) ?_ ?_ ?_ (fun _ _ h => h.elim)
      · repeat constructor
      · repeat constructor
      rintro _ _ ⟨rfl, c3, h3, rfl⟩
      refine sl_nil ⟨(by repeat constructor), ?_⟩
      refine sa_take 12 rfl rfl (by kernel_rfl) (by repeat constructor) (pu_bd rfl (.cons rfl (.cons rfl (.cons rfl .nil))) bi_89 zd_89 rfl) ?_
      refine sa_one 14 (by kernel_rfl) rfl ?_
      refine sl_stp rfl rfl rfl rfl sz_89 rfl rfl rfl (by repeat constructor) (Nat.le_of_ble_eq_true rfl) ?_
      refine sl_nil ⟨(by repeat constructor), ?_⟩
      refine sa_done (by kernel_rfl) ?_
      refine ⟨_, _, ?_, ?_, k, wr1, st1, c3, b5, rfl, rfl, rfl, o1, h3⟩
      · exact ⟨rfl, by repeat constructor⟩
      · repeat constructor
    refine sl_alloc rfl rfl zd_89 (fun b5 => ?_)
    refine sl_nil ⟨(by repeat constructor), ?_⟩
    refine sa_one 1 (by kernel_rfl) rfl ?_
    refine sl_callf rfl rfl cal_88 (rkind_ok b13 q 1 7 false (some b) (rd q b false) (.blk b5 zeroQ :: .blk b2 zeroQ :: σ) ⟨rfl, by omega⟩ (by decide)) ?_ ?_ ?_ (fun _ _ h => h.elim)
    · repeat constructor
    · repeat constructor
    rintro _ _ ⟨k, wr1, st1, c1, rfl, o1, h1, rfl⟩
    refine sl_nil ⟨(by repeat constructor), ?_⟩
    refine sa_one 6 (by kernel_rfl) rfl ?_
    refine sl_callf rfl rfl cal_32 (pText_ok q st1 c1 (.blk b13 [.ptr q 0, .val (.bool wr1)] :: .blk b5 zeroQ :: .blk b2 zeroQ :: σ) h1) ?_ ?_ ?_ (fun _ _ h => h.elim)
    · repeat constructor
    · repeat constructor
    rintro _ _ ⟨rfl, c2, h2, rfl⟩
    refine sl_nil ⟨(by repeat constructor), ?_⟩
    refine sa_one 11 (by kernel_rfl) rfl ?_
    refine sl_callf rfl rfl cal_32 (pText_ok q (rdOf decT [] st1).2 c2 (.blk b13 [.ptr q 0, .val (.bool wr1)] :: .blk b5 zeroQ :: .blk b2 zeroQ :: σ) h2) ?_ ?_ ?_ (fun _ _ h => h.elim)
    · repeat constructor
    · repeat constructor
    rintro _ _ ⟨rfl, c3, h3, rfl⟩
    refine sl_nil ⟨(by repeat constructor), ?_⟩
    refine sa_take 12 rfl rfl (by kernel_rfl) (by repeat constructor) (pu_bd rfl (.cons rfl (.cons rfl (.cons rfl .nil))) bi_89 zd_89 rfl) ?_
    refine sa_one 14 (by kernel_rfl) rfl ?_
    refine sl_stp rfl rfl rfl rfl sz_89 rfl rfl rfl (by repeat constructor) (Nat.le_of_ble_eq_true rfl) ?_
    refine sl_nil ⟨(by repeat constructor), ?_⟩
    refine sa_done (by kernel_rfl) ?_
    refine ⟨_, _, ?_, ?_, k, wr1, st1, c3, b5, rfl, rfl, rfl, o1, h3⟩
    · exact ⟨rfl, by repeat constructor⟩
    · repeat constructor
  rintro sX δX σX ⟨k, wr1, st1, c3, b5, rfl, rfl, rfl, o1, h3⟩
  have o2 := out_pub (dec := decT) (z := []) wr1 st1
  have o3 := out_pub (dec := decT) (z := []) wr1 (rdOf decT [] st1).2
  obtain ⟨x2, hx2⟩ : ∃ b, b = (rdOf decT [] st1).1 := ⟨_, rfl⟩
  obtain ⟨st2, hst2⟩ : ∃ b, b = (rdOf decT [] st1).2 := ⟨_, rfl⟩
  rw [← hx2, ← hst2] at o2
  rw [← hst2] at o3 h3
  rw [← hx2, ← hst2]
  obtain ⟨x3, hx3⟩ : ∃ b, b = (rdOf decT [] st2).1 := ⟨_, rfl⟩
  obtain ⟨st3, hst3⟩ : ∃ b, b = (rdOf decT [] st2).2 := ⟨_, rfl⟩
  rw [← hx3, ← hst3] at o3
  rw [← hst3] at h3
  rw [← hx3]
  refine sw_seq ?_
  refine sl_region ?_
  refine sl_mv rfl rfl rfl ?_
  refine sl_callf rfl rfl cal_89 (qsmall_ok b13 q wr1 st3 c3 (.blk b5 [.val (.int .i64 (k : Int)), .val (strV x2), .val (strV x3), .val (.int .i64 0)] :: .blk b2 zeroQ :: σ) h3) ?_ ?_ ?_ (fun _ _ h => h.elim)
  · repeat constructor
  · repeat constructor
  rintro _ _ ⟨n, wr4, st4, c4, rfl, o4, h4, rfl⟩
  have oo := out_reqK o1 o2 o3 o4
  first
    | refine sl_fieldAddr_ptr rfl rfl rfl fo_89_3 ?_
    | refine sl_fieldAddr_rp rfl rfl rfl fo_89_3 ?_
    | refine sl_fieldAddr_ref rfl rfl rfl fo_89_3 ?_
  refine sl_stp rfl rfl rfl rfl sz_3 rfl rfl rfl (by repeat constructor) (Nat.le_of_ble_eq_true rfl) ?_
  refine sl_nil ?_
  refine sw_seq ?_
  refine sw_seq ?_
  refine sl_region ?_
  refine sl_mv rfl rfl rfl ?_
  refine sl_nc rfl rfl rfl rfl ?_
  first
    | refine sl_fieldAddr_ptr rfl rfl rfl fo_133_1 ?_
    | refine sl_fieldAddr_rp rfl rfl rfl fo_133_1 ?_
    | refine sl_fieldAddr_ref rfl rfl rfl fo_133_1 ?_
  first
    | refine sl_load_rp1 rfl rfl rfl ag_4 rfl ?_
    | refine sl_load_blk1 rfl rfl rfl ag_4 (by repeat constructor) rfl ?_
  refine sl_mv rfl rfl rfl ?_
  refine sl_case_at 34 rfl (fun hw => ?_) (fun hw => ?_)
  · have hw1 : wr4 = true := hw
    subst hw1
    refine sl_guard_n rfl rfl rfl hw ?_
    refine sl_guard_n rfl rfl rfl hw ?_
    refine sl_guard_n rfl rfl rfl hw ?_
    refine sl_guard_n rfl rfl rfl hw ?_
    refine sl_guard_n rfl rfl rfl hw ?_
    refine sl_guard_n rfl rfl rfl hw ?_
    refine sl_pk_t rfl rfl rfl hw rfl ?_
    refine sl_nil ?_
    refine sw_true rfl (rfl) ?_
    refine sw_seq ?_
    refine sl_region ?_
    refine sl_bd rfl rfl .nil bi_89 zd_89 rfl ?_
    refine sl_stp rfl rfl rfl rfl sz_89 rfl rfl rfl (by repeat constructor) (Nat.le_of_ble_eq_true rfl) ?_
    refine sl_as rfl rfl rfl ?_
    refine sl_nil ?_
    refine sw_ret ⟨rfl, _, _, ResD.weaks (ds' := [.val (reqV noReq), .val (.int .i64 80)]) (res_mix (rs := [.cell 2 89, .tmp 3]) rfl (by decide) (.celln rfl ag_89 sz_89 (by repeat constructor) (Nat.le_of_ble_eq_true rfl) (.tmp rfl .nil))) (by repeat constructor), ?_, by rw [openReqK hg1, whole_bad (ok := fun _ => True) oo (.inl eff_wrong)]; exact ⟨rfl, rfl⟩⟩
    repeat constructor
  have hw1 : wr4 = false := hw
  subst hw1
  refine sl_guard_y rfl rfl rfl hw ?_
  refine sl_mv rfl rfl rfl ?_
  refine sl_guard_y rfl rfl rfl hw ?_
  refine sl_nc rfl rfl rfl rfl ?_
  refine sl_guard_y rfl rfl rfl hw ?_
  first
    | refine sl_fieldAddr_ptr rfl rfl rfl fo_133_0 ?_
    | refine sl_fieldAddr_rp rfl rfl rfl fo_133_0 ?_
    | refine sl_fieldAddr_ref rfl rfl rfl fo_133_0 ?_
  refine sl_guard_y rfl rfl rfl hw ?_
  first
    | refine sl_load_rp1 rfl rfl rfl ag_31 rfl ?_
    | refine sl_load_blk1 rfl rfl rfl ag_31 (by repeat constructor) rfl ?_
  refine sl_guard_y rfl rfl rfl hw ?_
  refine sl_callf rfl rfl cal_21 (done_ok q st4 c4 (.blk b13 [.ptr q 0, .val (.bool false)] :: .blk b5 [.val (.int .i64 (k : Int)), .val (strV x2), .val (strV x3), .val (.int .i64 n)] :: .blk b2 zeroQ :: σ) h4) ?_ ?_ ?_ (fun _ _ h => h.elim)
  · repeat constructor
  · repeat constructor
  rintro _ _ ⟨rfl, rfl⟩
  refine sl_guard_y rfl rfl rfl hw ?_
  refine sl_bin rfl rfl rfl rfl rfl ?_
  refine sl_pk_f rfl rfl rfl hw rfl ?_
  refine sl_nil ?_
  refine sw_cond rfl (fun he => ?_) (fun he => ?_)
  · refine sw_seq ?_
    refine sl_region ?_
    refine sl_bd rfl rfl .nil bi_89 zd_89 rfl ?_
    refine sl_stp rfl rfl rfl rfl sz_89 rfl rfl rfl (by repeat constructor) (Nat.le_of_ble_eq_true rfl) ?_
    refine sl_as rfl rfl rfl ?_
    refine sl_nil ?_
    refine sw_ret ⟨rfl, _, _, ResD.weaks (ds' := [.val (reqV noReq), .val (.int .i64 80)]) (res_mix (rs := [.cell 2 89, .tmp 3]) rfl (by decide) (.celln rfl ag_89 sz_89 (by repeat constructor) (Nat.le_of_ble_eq_true rfl) (.tmp rfl .nil))) (by repeat constructor), ?_, by rw [openReqK hg1, whole_bad (ok := fun _ => True) oo (.inl (doneV_ne he))]; exact ⟨rfl, rfl⟩⟩
    repeat constructor
  have he2 := doneV_eq he
  subst he2
  refine sw_skip ?_
  refine sw_seq ?_
  refine sl_region ?_
  first
    | refine sl_load_rpn rfl rfl rfl ag_89 sz_89 (Nat.le_of_ble_eq_true rfl) ?_
    | refine sl_load_blkn rfl rfl rfl ag_89 sz_89 (by repeat constructor) (Nat.le_of_ble_eq_true rfl) ?_
    | refine sl_load_ref rfl rfl rfl ag_89 sz_89 (Nat.le_of_ble_eq_true rfl) ?_
  refine sl_stp rfl rfl rfl rfl sz_89 rfl rfl rfl (by repeat constructor) (Nat.le_of_ble_eq_true rfl) ?_
  refine sl_as rfl rfl rfl ?_
  refine sl_nil ?_
  refine sw_ret ⟨rfl, _, _, ResD.weaks (ds' := [.val (reqV ⟨k, x2, x3, n⟩), .val (.int .i64 0)]) (res_mix (rs := [.cell 2 89, .tmp 3]) rfl (by decide) (.celln rfl ag_89 sz_89 (by repeat constructor) (Nat.le_of_ble_eq_true rfl) (.tmp rfl .nil))) (by repeat constructor), ?_, by rw [openReqK hg1, whole_good (ok := fun _ => True) oo trivial]; exact ⟨rfl, rfl⟩⟩
  repeat constructor

/-- The document's Open. -/
theorem dopen_ok (b : List UInt8) (σ : List Chunk) (hb : b.length ≤ 1000000) :
    FSpec Try.prog 51 [.val (.list (b.map byteV))] σ (fun d σ' => d = .tup [.val (reqV ((openReq b).getD noReq)), .val (.int .i64 (errOf (openReq b)))] ∧ σ' = σ) := by
  refine spec_of_sw Try.func51 rfl ?_
  refine sw_seq ?_
  refine sl_region ?_
  refine sl_alloc rfl rfl zd_89 (fun b2 => ?_)
  refine sl_as rfl rfl rfl ?_
  refine sl_nil ?_
  refine sw_seq ?_
  refine sw_seq ?_
  refine sl_region ?_
  refine sl_mv rfl rfl rfl ?_
  first
    | refine sl_len rfl rfl rfl ⟨_, u_26⟩ ?_
    | refine sl_len_sl rfl rfl rfl ⟨_, u_26⟩ ?_
    | refine sl_len_w _ rfl rfl rfl ⟨_, u_26⟩ ?_
  refine sl_bin rfl rfl rfl rfl rfl ?_
  refine sl_nil ?_
  refine sw_cond rfl (fun hg => ?_) (fun hg => ?_)
  · have hg1 : b.length > 8192 := by have := of_decide_eq_true hg; rw [List.length_map] at this; omega
    refine sw_seq ?_
    refine sl_region ?_
    refine sl_bd rfl rfl .nil bi_89 zd_89 rfl ?_
    refine sl_stp rfl rfl rfl rfl sz_89 rfl rfl rfl (by repeat constructor) (Nat.le_of_ble_eq_true rfl) ?_
    refine sl_as rfl rfl rfl ?_
    refine sl_nil ?_
    refine sw_ret ⟨rfl, _, _, ResD.weaks (ds' := [.val (reqV noReq), .val (.int .i64 80)]) (res_mix (rs := [.cell 2 89, .tmp 3]) rfl (by decide) (.celln rfl ag_89 sz_89 (by repeat constructor) (Nat.le_of_ble_eq_true rfl) (.tmp rfl .nil))) (by repeat constructor), ?_, by rw [openReq_long hg1]; exact ⟨rfl, rfl⟩⟩
    repeat constructor
  have hg1 : ¬ b.length > 8192 := by have := of_decide_eq_false hg; rw [List.length_map] at this; omega
  have o1 := out_rdOf (dec := decN 0) (z := 0) (some b)
  have hlt := rdOf_lt (st := some b)
  refine sw_skip ?_
  refine sw_seq ?_
  refine sl_region ?_
  refine sl_mv rfl rfl rfl ?_
  refine sl_bd rfl rfl (.cons rfl .nil) bi_80 zd_80 rfl ?_
  refine sl_bx rfl rfl rfl rfl (fun b15 => ?_)
  refine sl_as rfl rfl rfl ?_
  refine sl_nil ?_
  refine sw_seq ?_
  refine sl_region ?_
  refine sl_mv rfl rfl rfl ?_
  refine sl_callf rfl rfl cal_40 (ynum_ok b15 (some b) (rd b15 b false) (.blk b2 zeroQ :: σ) ⟨rfl, by omega⟩) ?_ ?_ ?_ (fun _ _ h => h.elim)
  · repeat constructor
  · repeat constructor
  rintro _ _ ⟨rfl, c1, h1, rfl⟩
  obtain ⟨k, hk⟩ : ∃ x, x = (rdOf (decN 0) 0 (some b)).1 := ⟨_, rfl⟩
  obtain ⟨st1, hst1⟩ : ∃ x, x = (rdOf (decN 0) 0 (some b)).2 := ⟨_, rfl⟩
  rw [← hk, ← hst1] at o1
  rw [← hk] at hlt ⊢
  rw [← hst1] at h1
  have o2 := out_rdOf (dec := decT) (z := []) st1
  refine sl_as rfl rfl rfl ?_
  refine sl_nil ?_
  refine sw_seq ?_
  refine sl_region ?_
  refine sl_mv rfl rfl rfl ?_
  refine sl_callf rfl rfl cal_42 (ytext_ok b15 st1 c1 (.blk b2 zeroQ :: σ) h1) ?_ ?_ ?_ (fun _ _ h => h.elim)
  · repeat constructor
  · repeat constructor
  rintro _ _ ⟨rfl, c2, h2, rfl⟩
  obtain ⟨x2, hx2⟩ : ∃ b, b = (rdOf decT [] st1).1 := ⟨_, rfl⟩
  obtain ⟨st2, hst2⟩ : ∃ b, b = (rdOf decT [] st1).2 := ⟨_, rfl⟩
  rw [← hx2, ← hst2] at o2
  rw [← hst2] at h2
  rw [← hx2]
  have o3 := out_rdOf (dec := decT) (z := []) st2
  refine sl_as rfl rfl rfl ?_
  refine sl_nil ?_
  refine sw_seq ?_
  refine sl_region ?_
  refine sl_mv rfl rfl rfl ?_
  refine sl_callf rfl rfl cal_42 (ytext_ok b15 st2 c2 (.blk b2 zeroQ :: σ) h2) ?_ ?_ ?_ (fun _ _ h => h.elim)
  · repeat constructor
  · repeat constructor
  rintro _ _ ⟨rfl, c3, h3, rfl⟩
  obtain ⟨x3, hx3⟩ : ∃ b, b = (rdOf decT [] st2).1 := ⟨_, rfl⟩
  obtain ⟨st3, hst3⟩ : ∃ b, b = (rdOf decT [] st2).2 := ⟨_, rfl⟩
  rw [← hx3, ← hst3] at o3
  rw [← hst3] at h3
  rw [← hx3]
  have o4 := out_rdOf (dec := decS) (z := 0) st3
  refine sl_as rfl rfl rfl ?_
  refine sl_nil ?_
  refine sw_seq ?_
  refine sl_region ?_
  refine sl_mv rfl rfl rfl ?_
  refine sl_callf rfl rfl cal_90 (ysmall_ok b15 st3 c3 (.blk b2 zeroQ :: σ) h3) ?_ ?_ ?_ (fun _ _ h => h.elim)
  · repeat constructor
  · repeat constructor
  rintro _ _ ⟨rfl, c4, h4, rfl⟩
  obtain ⟨n, hn⟩ : ∃ b, b = (rdOf decS 0 st3).1 := ⟨_, rfl⟩
  obtain ⟨st4, hst4⟩ : ∃ b, b = (rdOf decS 0 st3).2 := ⟨_, rfl⟩
  rw [← hn, ← hst4] at o4
  rw [← hst4] at h4
  rw [← hn]
  have oo := out_req o1 o2 o3 o4
  rcases st4 with _ | r
  · obtain ⟨r, rfl⟩ := h4
    refine sl_as rfl rfl rfl ?_
    refine sl_nil ?_
    refine sw_seq ?_
    refine sw_seq ?_
    refine sl_region ?_
    refine sl_mv rfl rfl rfl ?_
    refine sl_nc rfl rfl rfl rfl ?_
    first
      | refine sl_fieldAddr_ptr rfl rfl rfl fo_80_1 ?_
      | refine sl_fieldAddr_rp rfl rfl rfl fo_80_1 ?_
      | refine sl_fieldAddr_ref rfl rfl rfl fo_80_1 ?_
    first
      | refine sl_load_rp1 rfl rfl rfl ag_4 rfl ?_
      | refine sl_load_blk1 rfl rfl rfl ag_4 (by repeat constructor) rfl ?_
    refine sl_mv rfl rfl rfl ?_
    refine sl_guard_n rfl rfl rfl (rfl) ?_
    refine sl_guard_n rfl rfl rfl (rfl) ?_
    refine sl_guard_n rfl rfl rfl (rfl) ?_
    refine sl_guard_n rfl rfl rfl (rfl) ?_
    refine sl_guard_n rfl rfl rfl (rfl) ?_
    refine sl_guard_n rfl rfl rfl (rfl) ?_
    refine sl_pk_t rfl rfl rfl (rfl) rfl ?_
    refine sl_mv rfl rfl rfl ?_
    refine sl_guard_n rfl rfl rfl (rfl) ?_
    refine sl_guard_n rfl rfl rfl (rfl) ?_
    refine sl_pk_t rfl rfl rfl (rfl) rfl ?_
    refine sl_mv rfl rfl rfl ?_
    refine sl_guard_n rfl rfl rfl (rfl) ?_
    refine sl_guard_n rfl rfl rfl (rfl) ?_
    refine sl_pk_t rfl rfl rfl (rfl) rfl ?_
    refine sl_nil ?_
    refine sw_true rfl (rfl) ?_
    refine sw_seq ?_
    refine sl_region ?_
    refine sl_bd rfl rfl .nil bi_89 zd_89 rfl ?_
    refine sl_stp rfl rfl rfl rfl sz_89 rfl rfl rfl (by repeat constructor) (Nat.le_of_ble_eq_true rfl) ?_
    refine sl_as rfl rfl rfl ?_
    refine sl_nil ?_
    refine sw_ret ⟨rfl, _, _, ResD.weaks (ds' := [.val (reqV noReq), .val (.int .i64 80)]) (res_mix (rs := [.cell 2 89, .tmp 3]) rfl (by decide) (.celln rfl ag_89 sz_89 (by repeat constructor) (Nat.le_of_ble_eq_true rfl) (.tmp rfl .nil))) (by repeat constructor), ?_, by rw [openReq_short hg1, whole_bad oo (.inl (fun h => by cases h))]; exact ⟨rfl, rfl⟩⟩
    repeat constructor
  obtain ⟨rfl, hr⟩ := h4
  refine sl_as rfl rfl rfl ?_
  refine sl_nil ?_
  refine sw_seq ?_
  refine sw_seq ?_
  refine sl_region ?_
  refine sl_mv rfl rfl rfl ?_
  refine sl_nc rfl rfl rfl rfl ?_
  first
    | refine sl_fieldAddr_ptr rfl rfl rfl fo_80_1 ?_
    | refine sl_fieldAddr_rp rfl rfl rfl fo_80_1 ?_
    | refine sl_fieldAddr_ref rfl rfl rfl fo_80_1 ?_
  first
    | refine sl_load_rp1 rfl rfl rfl ag_4 rfl ?_
    | refine sl_load_blk1 rfl rfl rfl ag_4 (by repeat constructor) rfl ?_
  refine sl_mv rfl rfl rfl ?_
  refine sl_guard_y rfl rfl rfl (rfl) ?_
  refine sl_mv rfl rfl rfl ?_
  refine sl_guard_y rfl rfl rfl (rfl) ?_
  refine sl_nc rfl rfl rfl rfl ?_
  refine sl_guard_y rfl rfl rfl (rfl) ?_
  first
    | refine sl_fieldAddr_ptr rfl rfl rfl fo_80_0 ?_
    | refine sl_fieldAddr_rp rfl rfl rfl fo_80_0 ?_
    | refine sl_fieldAddr_ref rfl rfl rfl fo_80_0 ?_
  refine sl_guard_y rfl rfl rfl (rfl) ?_
  first
    | refine sl_load_rp1 rfl rfl rfl ag_26 rfl ?_
    | refine sl_load_blk1 rfl rfl rfl ag_26 (by repeat constructor) rfl ?_
  refine sl_guard_y rfl rfl rfl (rfl) ?_
  first
    | refine sl_len rfl rfl rfl ⟨_, u_26⟩ ?_
    | refine sl_len_sl rfl rfl rfl ⟨_, u_26⟩ ?_
    | refine sl_len_w _ rfl rfl rfl ⟨_, u_26⟩ ?_
  refine sl_guard_y rfl rfl rfl (rfl) ?_
  refine sl_bin rfl rfl rfl rfl rfl ?_
  refine sl_pk_f rfl rfl rfl (rfl) rfl ?_
  refine sl_mv rfl rfl rfl ?_
  refine sl_case_at 36 rfl (fun hp => ?_) (fun hp => ?_)
  · have hp1 : r ≠ [] := by intro e; subst e; simp at hp
    refine sl_guard_n rfl rfl rfl hp ?_
    refine sl_guard_n rfl rfl rfl hp ?_
    refine sl_pk_t rfl rfl rfl hp rfl ?_
    refine sl_mv rfl rfl rfl ?_
    refine sl_guard_n rfl rfl rfl (rfl) ?_
    refine sl_guard_n rfl rfl rfl (rfl) ?_
    refine sl_pk_t rfl rfl rfl (rfl) rfl ?_
    refine sl_nil ?_
    refine sw_true rfl (rfl) ?_
    refine sw_seq ?_
    refine sl_region ?_
    refine sl_bd rfl rfl .nil bi_89 zd_89 rfl ?_
    refine sl_stp rfl rfl rfl rfl sz_89 rfl rfl rfl (by repeat constructor) (Nat.le_of_ble_eq_true rfl) ?_
    refine sl_as rfl rfl rfl ?_
    refine sl_nil ?_
    refine sw_ret ⟨rfl, _, _, ResD.weaks (ds' := [.val (reqV noReq), .val (.int .i64 80)]) (res_mix (rs := [.cell 2 89, .tmp 3]) rfl (by decide) (.celln rfl ag_89 sz_89 (by repeat constructor) (Nat.le_of_ble_eq_true rfl) (.tmp rfl .nil))) (by repeat constructor), ?_, by rw [openReq_short hg1, whole_bad oo (.inl (fun h => hp1 (Option.some.inj h)))]; exact ⟨rfl, rfl⟩⟩
    repeat constructor
  have hp1 : r = [] := len_pos_false hp
  subst hp1
  refine sl_guard_y rfl rfl rfl hp ?_
  refine sl_mv rfl rfl rfl ?_
  refine sl_guard_y rfl rfl rfl hp ?_
  refine sl_bin rfl rfl rfl rfl rfl ?_
  refine sl_pk_f rfl rfl rfl hp rfl ?_
  refine sl_mv rfl rfl rfl ?_
  refine sl_case_at 40 rfl (fun ha => ?_) (fun ha => ?_)
  · refine sl_guard_n rfl rfl rfl ha ?_
    refine sl_guard_n rfl rfl rfl ha ?_
    refine sl_pk_t rfl rfl rfl ha rfl ?_
    refine sl_nil ?_
    refine sw_true rfl (rfl) ?_
    refine sw_seq ?_
    refine sl_region ?_
    refine sl_bd rfl rfl .nil bi_89 zd_89 rfl ?_
    refine sl_stp rfl rfl rfl rfl sz_89 rfl rfl rfl (by repeat constructor) (Nat.le_of_ble_eq_true rfl) ?_
    refine sl_as rfl rfl rfl ?_
    refine sl_nil ?_
    refine sw_ret ⟨rfl, _, _, ResD.weaks (ds' := [.val (reqV noReq), .val (.int .i64 80)]) (res_mix (rs := [.cell 2 89, .tmp 3]) rfl (by decide) (.celln rfl ag_89 sz_89 (by repeat constructor) (Nat.le_of_ble_eq_true rfl) (.tmp rfl .nil))) (by repeat constructor), ?_, by rw [openReq_short hg1, whole_bad oo (.inr (fun h => by have h2 := h.1; have := of_decide_eq_true ha; simp only at h2; omega))]; exact ⟨rfl, rfl⟩⟩
    repeat constructor
  refine sl_guard_y rfl rfl rfl ha ?_
  refine sl_mv rfl rfl rfl ?_
  refine sl_guard_y rfl rfl rfl ha ?_
  refine sl_bin rfl rfl rfl rfl rfl ?_
  refine sl_pk_f rfl rfl rfl ha rfl ?_
  refine sl_nil ?_
  refine sw_cond rfl (fun hz => ?_) (fun hz => ?_)
  · refine sw_seq ?_
    refine sl_region ?_
    refine sl_bd rfl rfl .nil bi_89 zd_89 rfl ?_
    refine sl_stp rfl rfl rfl rfl sz_89 rfl rfl rfl (by repeat constructor) (Nat.le_of_ble_eq_true rfl) ?_
    refine sl_as rfl rfl rfl ?_
    refine sl_nil ?_
    refine sw_ret ⟨rfl, _, _, ResD.weaks (ds' := [.val (reqV noReq), .val (.int .i64 80)]) (res_mix (rs := [.cell 2 89, .tmp 3]) rfl (by decide) (.celln rfl ag_89 sz_89 (by repeat constructor) (Nat.le_of_ble_eq_true rfl) (.tmp rfl .nil))) (by repeat constructor), ?_, by rw [openReq_short hg1, whole_bad oo (.inr (fun h => by have h2 := h.2; have := of_decide_eq_true hz; simp only at h2; omega))]; exact ⟨rfl, rfl⟩⟩
    repeat constructor
  have hk7 : 1 ≤ k ∧ k ≤ 7 := ⟨by have := of_decide_eq_false ha; omega, by have := of_decide_eq_false hz; omega⟩
  refine sw_skip ?_
  refine sw_seq ?_
  refine sl_region ?_
  refine sl_mv rfl rfl rfl ?_
  refine sl_conv_int rfl rfl rfl is_37 u_3 ?_
  refine sl_set 46 (.val (.int .i64 (k : Int))) (congrArg (fun z => D.val (.int .i64 z)) (wrap_i64 (n := (k : Int)) (by omega) (by omega))) ?_
  refine sl_mv rfl rfl rfl ?_
  refine sl_mv rfl rfl rfl ?_
  refine sl_mv rfl rfl rfl ?_
  refine sl_bd rfl rfl (.cons rfl (.cons rfl (.cons rfl (.cons rfl .nil)))) bi_89 zd_89 rfl ?_
  refine sl_stp rfl rfl rfl rfl sz_89 rfl rfl rfl (by repeat constructor) (Nat.le_of_ble_eq_true rfl) ?_
  refine sl_as rfl rfl rfl ?_
  refine sl_nil ?_
  refine sw_ret ⟨rfl, _, _, ResD.weaks (ds' := [.val (reqV ⟨k, x2, x3, n⟩), .val (.int .i64 0)]) (res_mix (rs := [.cell 2 89, .tmp 3]) rfl (by decide) (.celln rfl ag_89 sz_89 (by repeat constructor) (Nat.le_of_ble_eq_true rfl) (.tmp rfl .nil))) (by repeat constructor), ?_, by rw [openReq_short hg1, whole_good oo ⟨by simp only; omega, by simp only; omega⟩]; exact ⟨rfl, rfl⟩⟩
  repeat constructor

end Go.Proofs.Ytioechdfghglhaa

/- Walks: printed by a program of this session out of its script ReqD. -/
namespace Go.Proofs.Ytioechdfghglhaa
set_option linter.unusedVariables false
set_option linter.unusedSimpArgs false
set_option maxRecDepth 4000
set_option maxHeartbeats 4000000
open Go Go.RowKit SL


theorem same_ok (a b : Req) (σ : List Chunk) : FSpec Try.prog 54 [.val (reqV a), .val (reqV b)] σ (fun d σ' => d = .val (.bool (decide (a = b))) ∧ σ' = σ) := by
  refine spec_of_sw Try.func54 rfl ?_
  refine sw_seq ?_
  refine sl_region ?_
  refine sl_bx_imm rfl rfl rfl rfl rfl ?_
  refine sl_bx_imm rfl rfl rfl rfl rfl ?_
  refine sl_as rfl rfl rfl ?_
  refine sl_nil ?_
  refine sw_seq ?_
  refine sl_region ?_
  first
    | refine sl_fieldAddr_ptr rfl rfl rfl fo_89_0 ?_
    | refine sl_fieldAddr_rp rfl rfl rfl fo_89_0 ?_
    | refine sl_fieldAddr_ref rfl rfl rfl fo_89_0 ?_
  first
    | refine sl_load_rp1 rfl rfl rfl ag_3 rfl ?_
    | refine sl_load_blk1 rfl rfl rfl ag_3 (by repeat constructor) rfl ?_
  first
    | refine sl_fieldAddr_ptr rfl rfl rfl fo_89_0 ?_
    | refine sl_fieldAddr_rp rfl rfl rfl fo_89_0 ?_
    | refine sl_fieldAddr_ref rfl rfl rfl fo_89_0 ?_
  first
    | refine sl_load_rp1 rfl rfl rfl ag_3 rfl ?_
    | refine sl_load_blk1 rfl rfl rfl ag_3 (by repeat constructor) rfl ?_
  refine sl_bin rfl rfl rfl rfl rfl ?_
  refine sl_mv rfl rfl rfl ?_
  refine sl_case_at 10 rfl (fun h1 => ?_) (fun h1 => ?_)
  · refine sl_guard_y rfl rfl rfl h1 ?_
    first
      | refine sl_fieldAddr_ptr rfl rfl rfl fo_89_1 ?_
      | refine sl_fieldAddr_rp rfl rfl rfl fo_89_1 ?_
      | refine sl_fieldAddr_ref rfl rfl rfl fo_89_1 ?_
    refine sl_guard_y rfl rfl rfl h1 ?_
    first
      | refine sl_load_rp1 rfl rfl rfl ag_9 rfl ?_
      | refine sl_load_blk1 rfl rfl rfl ag_9 (by repeat constructor) rfl ?_
    refine sl_guard_y rfl rfl rfl h1 ?_
    first
      | refine sl_fieldAddr_ptr rfl rfl rfl fo_89_1 ?_
      | refine sl_fieldAddr_rp rfl rfl rfl fo_89_1 ?_
      | refine sl_fieldAddr_ref rfl rfl rfl fo_89_1 ?_
    refine sl_guard_y rfl rfl rfl h1 ?_
    first
      | refine sl_load_rp1 rfl rfl rfl ag_9 rfl ?_
      | refine sl_load_blk1 rfl rfl rfl ag_9 (by repeat constructor) rfl ?_
    refine sl_guard_y rfl rfl rfl h1 ?_
    refine sl_str rfl rfl rfl rfl rfl ?_
    refine sl_pk_t rfl rfl rfl h1 rfl ?_
    refine sl_mv rfl rfl rfl ?_
    refine sl_case_at 17 rfl (fun h2 => ?_) (fun h2 => ?_)
    · refine sl_guard_y rfl rfl rfl h2 ?_
      first
        | refine sl_fieldAddr_ptr rfl rfl rfl fo_89_2 ?_
        | refine sl_fieldAddr_rp rfl rfl rfl fo_89_2 ?_
        | refine sl_fieldAddr_ref rfl rfl rfl fo_89_2 ?_
      refine sl_guard_y rfl rfl rfl h2 ?_
      first
        | refine sl_load_rp1 rfl rfl rfl ag_9 rfl ?_
        | refine sl_load_blk1 rfl rfl rfl ag_9 (by repeat constructor) rfl ?_
      refine sl_guard_y rfl rfl rfl h2 ?_
      first
        | refine sl_fieldAddr_ptr rfl rfl rfl fo_89_2 ?_
        | refine sl_fieldAddr_rp rfl rfl rfl fo_89_2 ?_
        | refine sl_fieldAddr_ref rfl rfl rfl fo_89_2 ?_
      refine sl_guard_y rfl rfl rfl h2 ?_
      first
        | refine sl_load_rp1 rfl rfl rfl ag_9 rfl ?_
        | refine sl_load_blk1 rfl rfl rfl ag_9 (by repeat constructor) rfl ?_
      refine sl_guard_y rfl rfl rfl h2 ?_
      refine sl_str rfl rfl rfl rfl rfl ?_
      refine sl_pk_t rfl rfl rfl h2 rfl ?_
      refine sl_mv rfl rfl rfl ?_
      refine sl_case_at 24 rfl (fun h3 => ?_) (fun h3 => ?_)
      · refine sl_guard_y rfl rfl rfl h3 ?_
        first
          | refine sl_fieldAddr_ptr rfl rfl rfl fo_89_3 ?_
          | refine sl_fieldAddr_rp rfl rfl rfl fo_89_3 ?_
          | refine sl_fieldAddr_ref rfl rfl rfl fo_89_3 ?_
        refine sl_guard_y rfl rfl rfl h3 ?_
        first
          | refine sl_load_rp1 rfl rfl rfl ag_3 rfl ?_
          | refine sl_load_blk1 rfl rfl rfl ag_3 (by repeat constructor) rfl ?_
        refine sl_guard_y rfl rfl rfl h3 ?_
        first
          | refine sl_fieldAddr_ptr rfl rfl rfl fo_89_3 ?_
          | refine sl_fieldAddr_rp rfl rfl rfl fo_89_3 ?_
          | refine sl_fieldAddr_ref rfl rfl rfl fo_89_3 ?_
        refine sl_guard_y rfl rfl rfl h3 ?_
        first
          | refine sl_load_rp1 rfl rfl rfl ag_3 rfl ?_
          | refine sl_load_blk1 rfl rfl rfl ag_3 (by repeat constructor) rfl ?_
        refine sl_guard_y rfl rfl rfl h3 ?_
        refine sl_bin rfl rfl rfl rfl rfl ?_
        refine sl_pk_t rfl rfl rfl h3 rfl ?_
        refine sl_as rfl rfl rfl ?_
        refine sl_nil ?_
        refine sw_ret ⟨rfl, _, _, res_one rfl rfl, ?_, ⟨congrArg (fun b => D.val (.bool b)) (req_eq (by simpa using h1) (by simpa using h2) (by simpa using h3)), rfl⟩⟩
        repeat constructor
      refine sl_guard_n rfl rfl rfl h3 ?_
      refine sl_guard_n rfl rfl rfl h3 ?_
      refine sl_guard_n rfl rfl rfl h3 ?_
      refine sl_guard_n rfl rfl rfl h3 ?_
      refine sl_guard_n rfl rfl rfl h3 ?_
      refine sl_pk_f rfl rfl rfl h3 rfl ?_
      refine sl_as rfl rfl rfl ?_
      refine sl_nil ?_
      refine sw_ret ⟨rfl, _, _, res_one rfl rfl, ?_, ⟨dec_ff (fun e => by subst e; simp at h3), rfl⟩⟩
      repeat constructor
    refine sl_guard_n rfl rfl rfl h2 ?_
    refine sl_guard_n rfl rfl rfl h2 ?_
    refine sl_guard_n rfl rfl rfl h2 ?_
    refine sl_guard_n rfl rfl rfl h2 ?_
    refine sl_guard_n rfl rfl rfl h2 ?_
    refine sl_pk_f rfl rfl rfl h2 rfl ?_
    refine sl_mv rfl rfl rfl ?_
    refine sl_guard_n rfl rfl rfl (rfl) ?_
    refine sl_guard_n rfl rfl rfl (rfl) ?_
    refine sl_guard_n rfl rfl rfl (rfl) ?_
    refine sl_guard_n rfl rfl rfl (rfl) ?_
    refine sl_guard_n rfl rfl rfl (rfl) ?_
    refine sl_pk_f rfl rfl rfl (rfl) rfl ?_
    refine sl_as rfl rfl rfl ?_
    refine sl_nil ?_
    refine sw_ret ⟨rfl, _, _, res_one rfl rfl, ?_, ⟨dec_ff (fun e => by subst e; simp at h2), rfl⟩⟩
    repeat constructor
  refine sl_guard_n rfl rfl rfl h1 ?_
  refine sl_guard_n rfl rfl rfl h1 ?_
  refine sl_guard_n rfl rfl rfl h1 ?_
  refine sl_guard_n rfl rfl rfl h1 ?_
  refine sl_guard_n rfl rfl rfl h1 ?_
  refine sl_pk_f rfl rfl rfl h1 rfl ?_
  refine sl_mv rfl rfl rfl ?_
  refine sl_guard_n rfl rfl rfl (rfl) ?_
  refine sl_guard_n rfl rfl rfl (rfl) ?_
  refine sl_guard_n rfl rfl rfl (rfl) ?_
  refine sl_guard_n rfl rfl rfl (rfl) ?_
  refine sl_guard_n rfl rfl rfl (rfl) ?_
  refine sl_pk_f rfl rfl rfl (rfl) rfl ?_
  refine sl_mv rfl rfl rfl ?_
  refine sl_guard_n rfl rfl rfl (rfl) ?_
  refine sl_guard_n rfl rfl rfl (rfl) ?_
  refine sl_guard_n rfl rfl rfl (rfl) ?_
  refine sl_guard_n rfl rfl rfl (rfl) ?_
  refine sl_guard_n rfl rfl rfl (rfl) ?_
  refine sl_pk_f rfl rfl rfl (rfl) rfl ?_
  refine sl_as rfl rfl rfl ?_
  refine sl_nil ?_
  refine sw_ret ⟨rfl, _, _, res_one rfl rfl, ?_, ⟨dec_ff (fun e => by subst e; simp at h1), rfl⟩⟩
  repeat constructor

theorem hreply_ok (a b : Rep) (σ : List Chunk) (hsm : a.alarms.length ≤ 100000000) : FSpec Try.prog 55 [.val (repV a), .val (repV b)] σ (fun d σ' => d = .val (.bool (decide (a = b))) ∧ σ' = σ) := by
  refine spec_of_sw Try.func55 rfl ?_
  refine sw_seq ?_
  refine sl_region ?_
  refine sl_bx_imm rfl rfl rfl rfl rfl ?_
  refine sl_bx_imm rfl rfl rfl rfl rfl ?_
  refine sl_as rfl rfl rfl ?_
  refine sl_nil ?_
  refine sw_seq ?_
  refine sl_region ?_
  first
    | refine sl_fieldAddr_ptr rfl rfl rfl fo_97_0 ?_
    | refine sl_fieldAddr_rp rfl rfl rfl fo_97_0 ?_
    | refine sl_fieldAddr_ref rfl rfl rfl fo_97_0 ?_
  first
    | refine sl_load_rp1 rfl rfl rfl ag_3 rfl ?_
    | refine sl_load_blk1 rfl rfl rfl ag_3 (by repeat constructor) rfl ?_
  first
    | refine sl_fieldAddr_ptr rfl rfl rfl fo_97_0 ?_
    | refine sl_fieldAddr_rp rfl rfl rfl fo_97_0 ?_
    | refine sl_fieldAddr_ref rfl rfl rfl fo_97_0 ?_
  first
    | refine sl_load_rp1 rfl rfl rfl ag_3 rfl ?_
    | refine sl_load_blk1 rfl rfl rfl ag_3 (by repeat constructor) rfl ?_
  refine sl_bin rfl rfl rfl rfl rfl ?_
  refine sl_mv rfl rfl rfl ?_
  refine sl_case_at 10 rfl (fun h1 => ?_) (fun h1 => ?_)
  · refine sl_guard_y rfl rfl rfl h1 ?_
    first
      | refine sl_fieldAddr_ptr rfl rfl rfl fo_97_1 ?_
      | refine sl_fieldAddr_rp rfl rfl rfl fo_97_1 ?_
      | refine sl_fieldAddr_ref rfl rfl rfl fo_97_1 ?_
    refine sl_guard_y rfl rfl rfl h1 ?_
    first
      | refine sl_load_rp1 rfl rfl rfl ag_35 rfl ?_
      | refine sl_load_blk1 rfl rfl rfl ag_35 (by repeat constructor) rfl ?_
    refine sl_guard_y rfl rfl rfl h1 ?_
    first
      | refine sl_fieldAddr_ptr rfl rfl rfl fo_97_1 ?_
      | refine sl_fieldAddr_rp rfl rfl rfl fo_97_1 ?_
      | refine sl_fieldAddr_ref rfl rfl rfl fo_97_1 ?_
    refine sl_guard_y rfl rfl rfl h1 ?_
    first
      | refine sl_load_rp1 rfl rfl rfl ag_35 rfl ?_
      | refine sl_load_blk1 rfl rfl rfl ag_35 (by repeat constructor) rfl ?_
    refine sl_guard_y rfl rfl rfl h1 ?_
    refine sl_bin rfl rfl rfl rfl rfl ?_
    refine sl_pk_t rfl rfl rfl h1 rfl ?_
    refine sl_mv rfl rfl rfl ?_
    refine sl_case_at 17 rfl (fun h2 => ?_) (fun h2 => ?_)
    · refine sl_guard_y rfl rfl rfl h2 ?_
      first
        | refine sl_fieldAddr_ptr rfl rfl rfl fo_97_2 ?_
        | refine sl_fieldAddr_rp rfl rfl rfl fo_97_2 ?_
        | refine sl_fieldAddr_ref rfl rfl rfl fo_97_2 ?_
      refine sl_guard_y rfl rfl rfl h2 ?_
      first
        | refine sl_load_rp1 rfl rfl rfl ag_3 rfl ?_
        | refine sl_load_blk1 rfl rfl rfl ag_3 (by repeat constructor) rfl ?_
      refine sl_guard_y rfl rfl rfl h2 ?_
      first
        | refine sl_fieldAddr_ptr rfl rfl rfl fo_97_2 ?_
        | refine sl_fieldAddr_rp rfl rfl rfl fo_97_2 ?_
        | refine sl_fieldAddr_ref rfl rfl rfl fo_97_2 ?_
      refine sl_guard_y rfl rfl rfl h2 ?_
      first
        | refine sl_load_rp1 rfl rfl rfl ag_3 rfl ?_
        | refine sl_load_blk1 rfl rfl rfl ag_3 (by repeat constructor) rfl ?_
      refine sl_guard_y rfl rfl rfl h2 ?_
      refine sl_bin rfl rfl rfl rfl rfl ?_
      refine sl_pk_t rfl rfl rfl h2 rfl ?_
      refine sl_mv rfl rfl rfl ?_
      refine sl_case_at 24 rfl (fun h3 => ?_) (fun h3 => ?_)
      · refine sl_guard_y rfl rfl rfl h3 ?_
        first
          | refine sl_fieldAddr_ptr rfl rfl rfl fo_97_3 ?_
          | refine sl_fieldAddr_rp rfl rfl rfl fo_97_3 ?_
          | refine sl_fieldAddr_ref rfl rfl rfl fo_97_3 ?_
        refine sl_guard_y rfl rfl rfl h3 ?_
        first
          | refine sl_load_rp1 rfl rfl rfl ag_67 rfl ?_
          | refine sl_load_blk1 rfl rfl rfl ag_67 (by repeat constructor) rfl ?_
        refine sl_guard_y rfl rfl rfl h3 ?_
        first
          | refine sl_fieldAddr_ptr rfl rfl rfl fo_97_3 ?_
          | refine sl_fieldAddr_rp rfl rfl rfl fo_97_3 ?_
          | refine sl_fieldAddr_ref rfl rfl rfl fo_97_3 ?_
        refine sl_guard_y rfl rfl rfl h3 ?_
        first
          | refine sl_load_rp1 rfl rfl rfl ag_67 rfl ?_
          | refine sl_load_blk1 rfl rfl rfl ag_67 (by repeat constructor) rfl ?_
        refine sl_guard_y rfl rfl rfl h3 ?_
        refine sl_callf rfl rfl cal_83 (halarms_ok a.alarms b.alarms σ hsm) ?_ ?_ ?_ (fun _ _ h => h.elim)
        · repeat constructor
        · repeat constructor
        rintro _ _ ⟨rfl, hσ⟩
        have hσ2 := hσ.symm
        subst hσ2
        refine sl_pk_t rfl rfl rfl h3 rfl ?_
        refine sl_mv rfl rfl rfl ?_
        refine sl_case_at 31 rfl (fun h4 => ?_) (fun h4 => ?_)
        · refine sl_guard_y rfl rfl rfl h4 ?_
          first
            | refine sl_fieldAddr_ptr rfl rfl rfl fo_97_4 ?_
            | refine sl_fieldAddr_rp rfl rfl rfl fo_97_4 ?_
            | refine sl_fieldAddr_ref rfl rfl rfl fo_97_4 ?_
          refine sl_guard_y rfl rfl rfl h4 ?_
          first
            | refine sl_load_rp1 rfl rfl rfl ag_9 rfl ?_
            | refine sl_load_blk1 rfl rfl rfl ag_9 (by repeat constructor) rfl ?_
          refine sl_guard_y rfl rfl rfl h4 ?_
          first
            | refine sl_fieldAddr_ptr rfl rfl rfl fo_97_4 ?_
            | refine sl_fieldAddr_rp rfl rfl rfl fo_97_4 ?_
            | refine sl_fieldAddr_ref rfl rfl rfl fo_97_4 ?_
          refine sl_guard_y rfl rfl rfl h4 ?_
          first
            | refine sl_load_rp1 rfl rfl rfl ag_9 rfl ?_
            | refine sl_load_blk1 rfl rfl rfl ag_9 (by repeat constructor) rfl ?_
          refine sl_guard_y rfl rfl rfl h4 ?_
          refine sl_str rfl rfl rfl rfl rfl ?_
          refine sl_pk_t rfl rfl rfl h4 rfl ?_
          refine sl_mv rfl rfl rfl ?_
          refine sl_case_at 38 rfl (fun h5 => ?_) (fun h5 => ?_)
          · refine sl_guard_y rfl rfl rfl h5 ?_
            first
              | refine sl_fieldAddr_ptr rfl rfl rfl fo_97_5 ?_
              | refine sl_fieldAddr_rp rfl rfl rfl fo_97_5 ?_
              | refine sl_fieldAddr_ref rfl rfl rfl fo_97_5 ?_
            refine sl_guard_y rfl rfl rfl h5 ?_
            first
              | refine sl_load_rp1 rfl rfl rfl ag_3 rfl ?_
              | refine sl_load_blk1 rfl rfl rfl ag_3 (by repeat constructor) rfl ?_
            refine sl_guard_y rfl rfl rfl h5 ?_
            first
              | refine sl_fieldAddr_ptr rfl rfl rfl fo_97_5 ?_
              | refine sl_fieldAddr_rp rfl rfl rfl fo_97_5 ?_
              | refine sl_fieldAddr_ref rfl rfl rfl fo_97_5 ?_
            refine sl_guard_y rfl rfl rfl h5 ?_
            first
              | refine sl_load_rp1 rfl rfl rfl ag_3 rfl ?_
              | refine sl_load_blk1 rfl rfl rfl ag_3 (by repeat constructor) rfl ?_
            refine sl_guard_y rfl rfl rfl h5 ?_
            refine sl_bin rfl rfl rfl rfl rfl ?_
            refine sl_pk_t rfl rfl rfl h5 rfl ?_
            refine sl_as rfl rfl rfl ?_
            refine sl_nil ?_
            refine sw_ret ⟨rfl, _, _, res_one rfl rfl, ?_, ⟨congrArg (fun b => D.val (.bool b)) (rep_eq (by simpa using h1) (by simpa using h2) (by simpa using h3) (by simpa using h4) (by simpa using h5)), rfl⟩⟩
            repeat constructor
          refine sl_guard_n rfl rfl rfl h5 ?_
          refine sl_guard_n rfl rfl rfl h5 ?_
          refine sl_guard_n rfl rfl rfl h5 ?_
          refine sl_guard_n rfl rfl rfl h5 ?_
          refine sl_guard_n rfl rfl rfl h5 ?_
          refine sl_pk_f rfl rfl rfl h5 rfl ?_
          refine sl_as rfl rfl rfl ?_
          refine sl_nil ?_
          refine sw_ret ⟨rfl, _, _, res_one rfl rfl, ?_, ⟨dec_ff (fun e => by subst e; simp at h5), rfl⟩⟩
          repeat constructor
        refine sl_guard_n rfl rfl rfl h4 ?_
        refine sl_guard_n rfl rfl rfl h4 ?_
        refine sl_guard_n rfl rfl rfl h4 ?_
        refine sl_guard_n rfl rfl rfl h4 ?_
        refine sl_guard_n rfl rfl rfl h4 ?_
        refine sl_pk_f rfl rfl rfl h4 rfl ?_
        refine sl_mv rfl rfl rfl ?_
        refine sl_guard_n rfl rfl rfl (rfl) ?_
        refine sl_guard_n rfl rfl rfl (rfl) ?_
        refine sl_guard_n rfl rfl rfl (rfl) ?_
        refine sl_guard_n rfl rfl rfl (rfl) ?_
        refine sl_guard_n rfl rfl rfl (rfl) ?_
        refine sl_pk_f rfl rfl rfl (rfl) rfl ?_
        refine sl_as rfl rfl rfl ?_
        refine sl_nil ?_
        refine sw_ret ⟨rfl, _, _, res_one rfl rfl, ?_, ⟨dec_ff (fun e => by subst e; simp at h4), rfl⟩⟩
        repeat constructor
      refine sl_guard_n rfl rfl rfl h3 ?_
      refine sl_guard_n rfl rfl rfl h3 ?_
      refine sl_guard_n rfl rfl rfl h3 ?_
      refine sl_guard_n rfl rfl rfl h3 ?_
      refine sl_guard_n rfl rfl rfl h3 ?_
      refine sl_pk_f rfl rfl rfl h3 rfl ?_
      refine sl_mv rfl rfl rfl ?_
      refine sl_guard_n rfl rfl rfl (rfl) ?_
      refine sl_guard_n rfl rfl rfl (rfl) ?_
      refine sl_guard_n rfl rfl rfl (rfl) ?_
      refine sl_guard_n rfl rfl rfl (rfl) ?_
      refine sl_guard_n rfl rfl rfl (rfl) ?_
      refine sl_pk_f rfl rfl rfl (rfl) rfl ?_
      refine sl_mv rfl rfl rfl ?_
      refine sl_guard_n rfl rfl rfl (rfl) ?_
      refine sl_guard_n rfl rfl rfl (rfl) ?_
      refine sl_guard_n rfl rfl rfl (rfl) ?_
      refine sl_guard_n rfl rfl rfl (rfl) ?_
      refine sl_guard_n rfl rfl rfl (rfl) ?_
      refine sl_pk_f rfl rfl rfl (rfl) rfl ?_
      refine sl_as rfl rfl rfl ?_
      refine sl_nil ?_
      refine sw_ret ⟨rfl, _, _, res_one rfl rfl, ?_, ⟨dec_ff (fun e => by subst e; simp at h3), rfl⟩⟩
      repeat constructor
    refine sl_guard_n rfl rfl rfl h2 ?_
    refine sl_guard_n rfl rfl rfl h2 ?_
    refine sl_guard_n rfl rfl rfl h2 ?_
    refine sl_guard_n rfl rfl rfl h2 ?_
    refine sl_guard_n rfl rfl rfl h2 ?_
    refine sl_pk_f rfl rfl rfl h2 rfl ?_
    refine sl_mv rfl rfl rfl ?_
    refine sl_guard_n rfl rfl rfl (rfl) ?_
    refine sl_guard_n rfl rfl rfl (rfl) ?_
    refine sl_guard_n rfl rfl rfl (rfl) ?_
    refine sl_guard_n rfl rfl rfl (rfl) ?_
    refine sl_guard_n rfl rfl rfl (rfl) ?_
    refine sl_pk_f rfl rfl rfl (rfl) rfl ?_
    refine sl_mv rfl rfl rfl ?_
    refine sl_guard_n rfl rfl rfl (rfl) ?_
    refine sl_guard_n rfl rfl rfl (rfl) ?_
    refine sl_guard_n rfl rfl rfl (rfl) ?_
    refine sl_guard_n rfl rfl rfl (rfl) ?_
    refine sl_guard_n rfl rfl rfl (rfl) ?_
    refine sl_pk_f rfl rfl rfl (rfl) rfl ?_
    refine sl_mv rfl rfl rfl ?_
    refine sl_guard_n rfl rfl rfl (rfl) ?_
    refine sl_guard_n rfl rfl rfl (rfl) ?_
    refine sl_guard_n rfl rfl rfl (rfl) ?_
    refine sl_guard_n rfl rfl rfl (rfl) ?_
    refine sl_guard_n rfl rfl rfl (rfl) ?_
    refine sl_pk_f rfl rfl rfl (rfl) rfl ?_
    refine sl_as rfl rfl rfl ?_
    refine sl_nil ?_
    refine sw_ret ⟨rfl, _, _, res_one rfl rfl, ?_, ⟨dec_ff (fun e => by subst e; simp at h2), rfl⟩⟩
    repeat constructor
  refine sl_guard_n rfl rfl rfl h1 ?_
  refine sl_guard_n rfl rfl rfl h1 ?_
  refine sl_guard_n rfl rfl rfl h1 ?_
  refine sl_guard_n rfl rfl rfl h1 ?_
  refine sl_guard_n rfl rfl rfl h1 ?_
  refine sl_pk_f rfl rfl rfl h1 rfl ?_
  refine sl_mv rfl rfl rfl ?_
  refine sl_guard_n rfl rfl rfl (rfl) ?_
  refine sl_guard_n rfl rfl rfl (rfl) ?_
  refine sl_guard_n rfl rfl rfl (rfl) ?_
  refine sl_guard_n rfl rfl rfl (rfl) ?_
  refine sl_guard_n rfl rfl rfl (rfl) ?_
  refine sl_pk_f rfl rfl rfl (rfl) rfl ?_
  refine sl_mv rfl rfl rfl ?_
  refine sl_guard_n rfl rfl rfl (rfl) ?_
  refine sl_guard_n rfl rfl rfl (rfl) ?_
  refine sl_guard_n rfl rfl rfl (rfl) ?_
  refine sl_guard_n rfl rfl rfl (rfl) ?_
  refine sl_guard_n rfl rfl rfl (rfl) ?_
  refine sl_pk_f rfl rfl rfl (rfl) rfl ?_
  refine sl_mv rfl rfl rfl ?_
  refine sl_guard_n rfl rfl rfl (rfl) ?_
  refine sl_guard_n rfl rfl rfl (rfl) ?_
  refine sl_guard_n rfl rfl rfl (rfl) ?_
  refine sl_guard_n rfl rfl rfl (rfl) ?_
  refine sl_guard_n rfl rfl rfl (rfl) ?_
  refine sl_pk_f rfl rfl rfl (rfl) rfl ?_
  refine sl_mv rfl rfl rfl ?_
  refine sl_guard_n rfl rfl rfl (rfl) ?_
  refine sl_guard_n rfl rfl rfl (rfl) ?_
  refine sl_guard_n rfl rfl rfl (rfl) ?_
  refine sl_guard_n rfl rfl rfl (rfl) ?_
  refine sl_guard_n rfl rfl rfl (rfl) ?_
  refine sl_pk_f rfl rfl rfl (rfl) rfl ?_
  refine sl_as rfl rfl rfl ?_
  refine sl_nil ?_
  refine sw_ret ⟨rfl, _, _, res_one rfl rfl, ?_, ⟨dec_ff (fun e => by subst e; simp at h1), rfl⟩⟩
  repeat constructor

/-- The document's OpenReply. -/
theorem dopenrep_ok (b : List UInt8) (σ : List Chunk) (hb : b.length ≤ 1000000) :
    FSpec Try.prog 53 [.val (.list (b.map byteV))] σ (fun d σ' => d = .tup [.val (repV ((openRep b).getD noRep)), .val (.int .i64 (errOf (openRep b)))] ∧ σ' = σ) := by
  refine spec_of_sw Try.func53 rfl ?_
  have o1 := out_rdOf (dec := decN 0) (z := 0) (some b)
  have hlt := rdOf_lt (st := some b)
  refine sw_seq ?_
  refine sl_region ?_
  refine sl_alloc rfl rfl zd_97 (fun b2 => ?_)
  refine sl_as rfl rfl rfl ?_
  refine sl_nil ?_
  refine sw_seq ?_
  refine sl_region ?_
  refine sl_mv rfl rfl rfl ?_
  refine sl_bd rfl rfl (.cons rfl .nil) bi_80 zd_80 rfl ?_
  refine sl_bx rfl rfl rfl rfl (fun b13 => ?_)
  refine sl_as rfl rfl rfl ?_
  refine sl_nil ?_
  refine sw_seq ?_
  refine sl_region ?_
  refine sl_mv rfl rfl rfl ?_
  refine sl_callf rfl rfl cal_40 (ynum_ok b13 (some b) (rd b13 b false) (.blk b2 zeroY :: σ) ⟨rfl, by omega⟩) ?_ ?_ ?_ (fun _ _ h => h.elim)
  · repeat constructor
  · repeat constructor
  rintro _ _ ⟨rfl, c1, h1, rfl⟩
  obtain ⟨k, hk⟩ : ∃ x, x = (rdOf (decN 0) 0 (some b)).1 := ⟨_, rfl⟩
  obtain ⟨st1, hst1⟩ : ∃ x, x = (rdOf (decN 0) 0 (some b)).2 := ⟨_, rfl⟩
  rw [← hk, ← hst1] at o1
  rw [← hk] at hlt ⊢
  rw [← hst1] at h1
  have o2 := out_rdOf (dec := decS) (z := 0) st1
  refine sl_as rfl rfl rfl ?_
  refine sl_nil ?_
  refine sw_seq ?_
  refine sl_region ?_
  refine sl_mv rfl rfl rfl ?_
  refine sl_callf rfl rfl cal_90 (ysmall_ok b13 st1 c1 (.blk b2 zeroY :: σ) h1) ?_ ?_ ?_ (fun _ _ h => h.elim)
  · repeat constructor
  · repeat constructor
  rintro _ _ ⟨rfl, c2, h2, rfl⟩
  obtain ⟨x2, hx2⟩ : ∃ b, b = (rdOf decS 0 st1).1 := ⟨_, rfl⟩
  obtain ⟨st2, hst2⟩ : ∃ b, b = (rdOf decS 0 st1).2 := ⟨_, rfl⟩
  rw [← hx2, ← hst2] at o2
  rw [← hst2] at h2
  rw [← hx2]
  have o3 := out_rdOf (dec := decS) (z := 0) st2
  refine sl_as rfl rfl rfl ?_
  refine sl_nil ?_
  refine sw_seq ?_
  refine sl_region ?_
  refine sl_mv rfl rfl rfl ?_
  refine sl_callf rfl rfl cal_90 (ysmall_ok b13 st2 c2 (.blk b2 zeroY :: σ) h2) ?_ ?_ ?_ (fun _ _ h => h.elim)
  · repeat constructor
  · repeat constructor
  rintro _ _ ⟨rfl, c3, h3, rfl⟩
  obtain ⟨x3, hx3⟩ : ∃ b, b = (rdOf decS 0 st2).1 := ⟨_, rfl⟩
  obtain ⟨st3, hst3⟩ : ∃ b, b = (rdOf decS 0 st2).2 := ⟨_, rfl⟩
  rw [← hx3, ← hst3] at o3
  rw [← hst3] at h3
  rw [← hx3]
  refine sl_as rfl rfl rfl ?_
  refine sl_nil ?_
  refine sw_seq ?_
  refine sl_region ?_
  refine sl_mv rfl rfl rfl ?_
  refine sl_callf rfl rfl cal_86 (yalarms_ok b13 st3 c3 (.blk b2 zeroY :: σ) h3) ?_ ?_ ?_ (fun _ _ h => h.elim)
  · repeat constructor
  · repeat constructor
  rintro _ _ ⟨al, st4, c4, rfl, o4, h4, rfl⟩
  have o5 := out_rdOf (dec := decT) (z := []) st4
  refine sl_as rfl rfl rfl ?_
  refine sl_nil ?_
  refine sw_seq ?_
  refine sl_region ?_
  refine sl_mv rfl rfl rfl ?_
  refine sl_callf rfl rfl cal_42 (ytext_ok b13 st4 c4 (.blk b2 zeroY :: σ) h4) ?_ ?_ ?_ (fun _ _ h => h.elim)
  · repeat constructor
  · repeat constructor
  rintro _ _ ⟨rfl, c5, h5, rfl⟩
  obtain ⟨x5, hx5⟩ : ∃ b, b = (rdOf decT [] st4).1 := ⟨_, rfl⟩
  obtain ⟨st5, hst5⟩ : ∃ b, b = (rdOf decT [] st4).2 := ⟨_, rfl⟩
  rw [← hx5, ← hst5] at o5
  rw [← hst5] at h5
  rw [← hx5]
  have o6 := out_rdOf (dec := decS) (z := 0) st5
  refine sl_as rfl rfl rfl ?_
  refine sl_nil ?_
  refine sw_seq ?_
  refine sl_region ?_
  refine sl_mv rfl rfl rfl ?_
  refine sl_callf rfl rfl cal_90 (ysmall_ok b13 st5 c5 (.blk b2 zeroY :: σ) h5) ?_ ?_ ?_ (fun _ _ h => h.elim)
  · repeat constructor
  · repeat constructor
  rintro _ _ ⟨rfl, c6, h6, rfl⟩
  obtain ⟨n, hn⟩ : ∃ b, b = (rdOf decS 0 st5).1 := ⟨_, rfl⟩
  obtain ⟨st6, hst6⟩ : ∃ b, b = (rdOf decS 0 st5).2 := ⟨_, rfl⟩
  rw [← hn, ← hst6] at o6
  rw [← hst6] at h6
  rw [← hn]
  have oo := out_rep o1 o2 o3 o4 o5 o6
  rcases st6 with _ | r
  · obtain ⟨r, rfl⟩ := h6
    refine sl_as rfl rfl rfl ?_
    refine sl_nil ?_
    refine sw_seq ?_
    refine sw_seq ?_
    refine sl_region ?_
    refine sl_mv rfl rfl rfl ?_
    refine sl_nc rfl rfl rfl rfl ?_
    first
      | refine sl_fieldAddr_ptr rfl rfl rfl fo_80_1 ?_
      | refine sl_fieldAddr_rp rfl rfl rfl fo_80_1 ?_
      | refine sl_fieldAddr_ref rfl rfl rfl fo_80_1 ?_
    first
      | refine sl_load_rp1 rfl rfl rfl ag_4 rfl ?_
      | refine sl_load_blk1 rfl rfl rfl ag_4 (by repeat constructor) rfl ?_
    refine sl_mv rfl rfl rfl ?_
    refine sl_guard_n rfl rfl rfl (rfl) ?_
    refine sl_guard_n rfl rfl rfl (rfl) ?_
    refine sl_guard_n rfl rfl rfl (rfl) ?_
    refine sl_guard_n rfl rfl rfl (rfl) ?_
    refine sl_guard_n rfl rfl rfl (rfl) ?_
    refine sl_guard_n rfl rfl rfl (rfl) ?_
    refine sl_pk_t rfl rfl rfl (rfl) rfl ?_
    refine sl_mv rfl rfl rfl ?_
    refine sl_guard_n rfl rfl rfl (rfl) ?_
    refine sl_guard_n rfl rfl rfl (rfl) ?_
    refine sl_pk_t rfl rfl rfl (rfl) rfl ?_
    refine sl_nil ?_
    refine sw_true rfl (rfl) ?_
    refine sw_seq ?_
    refine sl_region ?_
    refine sl_bd rfl rfl .nil bi_97 zd_97 rfl ?_
    refine sl_stp rfl rfl rfl rfl sz_97 rfl rfl rfl (by repeat constructor) (Nat.le_of_ble_eq_true rfl) ?_
    refine sl_as rfl rfl rfl ?_
    refine sl_nil ?_
    refine sw_ret ⟨rfl, _, _, ResD.weaks (ds' := [.val (repV noRep), .val (.int .i64 80)]) (res_mix (rs := [.cell 2 97, .tmp 3]) rfl (by decide) (.celln rfl ag_97 sz_97 (by repeat constructor) (Nat.le_of_ble_eq_true rfl) (.tmp rfl .nil))) (by repeat constructor), ?_, by unfold openRep; rw [whole_bad oo (.inl (fun h => by cases h))]; exact ⟨rfl, rfl⟩⟩
    repeat constructor
  obtain ⟨rfl, hr⟩ := h6
  refine sl_as rfl rfl rfl ?_
  refine sl_nil ?_
  refine sw_seq ?_
  refine sw_seq ?_
  refine sl_region ?_
  refine sl_mv rfl rfl rfl ?_
  refine sl_nc rfl rfl rfl rfl ?_
  first
    | refine sl_fieldAddr_ptr rfl rfl rfl fo_80_1 ?_
    | refine sl_fieldAddr_rp rfl rfl rfl fo_80_1 ?_
    | refine sl_fieldAddr_ref rfl rfl rfl fo_80_1 ?_
  first
    | refine sl_load_rp1 rfl rfl rfl ag_4 rfl ?_
    | refine sl_load_blk1 rfl rfl rfl ag_4 (by repeat constructor) rfl ?_
  refine sl_mv rfl rfl rfl ?_
  refine sl_guard_y rfl rfl rfl (rfl) ?_
  refine sl_mv rfl rfl rfl ?_
  refine sl_guard_y rfl rfl rfl (rfl) ?_
  refine sl_nc rfl rfl rfl rfl ?_
  refine sl_guard_y rfl rfl rfl (rfl) ?_
  first
    | refine sl_fieldAddr_ptr rfl rfl rfl fo_80_0 ?_
    | refine sl_fieldAddr_rp rfl rfl rfl fo_80_0 ?_
    | refine sl_fieldAddr_ref rfl rfl rfl fo_80_0 ?_
  refine sl_guard_y rfl rfl rfl (rfl) ?_
  first
    | refine sl_load_rp1 rfl rfl rfl ag_26 rfl ?_
    | refine sl_load_blk1 rfl rfl rfl ag_26 (by repeat constructor) rfl ?_
  refine sl_guard_y rfl rfl rfl (rfl) ?_
  first
    | refine sl_len rfl rfl rfl ⟨_, u_26⟩ ?_
    | refine sl_len_sl rfl rfl rfl ⟨_, u_26⟩ ?_
    | refine sl_len_w _ rfl rfl rfl ⟨_, u_26⟩ ?_
  refine sl_guard_y rfl rfl rfl (rfl) ?_
  refine sl_bin rfl rfl rfl rfl rfl ?_
  refine sl_pk_f rfl rfl rfl (rfl) rfl ?_
  refine sl_mv rfl rfl rfl ?_
  refine sl_case_at 38 rfl (fun hp => ?_) (fun hp => ?_)
  · have hp1 : r ≠ [] := by intro e; subst e; simp at hp
    refine sl_guard_n rfl rfl rfl hp ?_
    refine sl_guard_n rfl rfl rfl hp ?_
    refine sl_pk_t rfl rfl rfl hp rfl ?_
    refine sl_nil ?_
    refine sw_true rfl (rfl) ?_
    refine sw_seq ?_
    refine sl_region ?_
    refine sl_bd rfl rfl .nil bi_97 zd_97 rfl ?_
    refine sl_stp rfl rfl rfl rfl sz_97 rfl rfl rfl (by repeat constructor) (Nat.le_of_ble_eq_true rfl) ?_
    refine sl_as rfl rfl rfl ?_
    refine sl_nil ?_
    refine sw_ret ⟨rfl, _, _, ResD.weaks (ds' := [.val (repV noRep), .val (.int .i64 80)]) (res_mix (rs := [.cell 2 97, .tmp 3]) rfl (by decide) (.celln rfl ag_97 sz_97 (by repeat constructor) (Nat.le_of_ble_eq_true rfl) (.tmp rfl .nil))) (by repeat constructor), ?_, by unfold openRep; rw [whole_bad oo (.inl (fun h => hp1 (Option.some.inj h)))]; exact ⟨rfl, rfl⟩⟩
    repeat constructor
  have hp1 : r = [] := len_pos_false hp
  subst hp1
  refine sl_guard_y rfl rfl rfl hp ?_
  refine sl_mv rfl rfl rfl ?_
  refine sl_guard_y rfl rfl rfl hp ?_
  refine sl_bin rfl rfl rfl rfl rfl ?_
  refine sl_pk_f rfl rfl rfl hp rfl ?_
  refine sl_nil ?_
  refine sw_cond rfl (fun hz => ?_) (fun hz => ?_)
  · refine sw_seq ?_
    refine sl_region ?_
    refine sl_bd rfl rfl .nil bi_97 zd_97 rfl ?_
    refine sl_stp rfl rfl rfl rfl sz_97 rfl rfl rfl (by repeat constructor) (Nat.le_of_ble_eq_true rfl) ?_
    refine sl_as rfl rfl rfl ?_
    refine sl_nil ?_
    refine sw_ret ⟨rfl, _, _, ResD.weaks (ds' := [.val (repV noRep), .val (.int .i64 80)]) (res_mix (rs := [.cell 2 97, .tmp 3]) rfl (by decide) (.celln rfl ag_97 sz_97 (by repeat constructor) (Nat.le_of_ble_eq_true rfl) (.tmp rfl .nil))) (by repeat constructor), ?_, by unfold openRep; rw [whole_bad oo (.inr (fun h => by unfold repOk at h; have := of_decide_eq_true hz; simp only at h; omega))]; exact ⟨rfl, rfl⟩⟩
    repeat constructor
  have hk5 : k ≤ 5 := by have := of_decide_eq_false hz; omega
  refine sw_skip ?_
  refine sw_seq ?_
  refine sl_region ?_
  refine sl_mv rfl rfl rfl ?_
  refine sl_conv_int rfl rfl rfl is_37 u_3 ?_
  refine sl_set 44 (.val (.int .i64 (k : Int))) (congrArg (fun z => D.val (.int .i64 z)) (wrap_i64 (n := (k : Int)) (by omega) (by omega))) ?_
  refine sl_mv rfl rfl rfl ?_
  refine sl_mv rfl rfl rfl ?_
  refine sl_mv rfl rfl rfl ?_
  refine sl_mv rfl rfl rfl ?_
  refine sl_mv rfl rfl rfl ?_
  refine sl_bd rfl rfl (.cons rfl (.cons rfl (.cons rfl (.cons rfl (.cons rfl (.cons rfl .nil)))))) bi_97 zd_97 rfl ?_
  refine sl_stp rfl rfl rfl rfl sz_97 rfl rfl rfl (by repeat constructor) (Nat.le_of_ble_eq_true rfl) ?_
  refine sl_as rfl rfl rfl ?_
  refine sl_nil ?_
  refine sw_ret ⟨rfl, _, _, ResD.weaks (ds' := [.val (repV ⟨k, x2, x3, al, x5, n⟩), .val (.int .i64 0)]) (res_mix (rs := [.cell 2 97, .tmp 3]) rfl (by decide) (.celln rfl ag_97 sz_97 (by repeat constructor) (Nat.le_of_ble_eq_true rfl) (.tmp rfl .nil))) (by repeat constructor), ?_, by unfold openRep; rw [whole_good oo (by unfold repOk; simp only; omega)]; exact ⟨rfl, rfl⟩⟩
  repeat constructor

end Go.Proofs.Ytioechdfghglhaa
