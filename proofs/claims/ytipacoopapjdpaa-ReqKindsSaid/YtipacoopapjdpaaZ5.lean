/- Merged: the program logic, plain laws and walks (each part's first row says what it is); no conditions of its own. -/
import Derived.Test.YtipacoopapjdpaaZ4
import Derived.Test.YtipacoopapjdpaaZ3

/- Walks: printed by a program of this session out of its script ReqA. -/
namespace Go.Proofs.Ytipacoopapjdpaa
set_option linter.unusedVariables false
set_option linter.unusedSimpArgs false
set_option maxRecDepth 4000
set_option maxHeartbeats 4000000
open Go Go.RowKit SL


/-- kind reads a kind. -/
theorem rkind_ok (p q lo hi : Nat) (wr : Bool) (st : Option (List UInt8)) (c : Chunk) (σ : List Chunk) (h : Rdr q st c) (hhi : hi ≤ 1000) :
    FSpec Try.prog 33 [.ptr p 0, .val (u64V lo), .val (u64V hi)] (.blk p [.ptr q 0, .val (.bool wr)] :: c :: σ)
      (fun d σ' => ∃ k : Nat, ∃ wr' st' c', d = .val (.int .i64 (k : Int)) ∧ Out (decK lo hi) (eff wr st) k (eff wr' st') ∧ Rdr q st' c' ∧ σ' = .blk p [.ptr q 0, .val (.bool wr')] :: c' :: σ) := by
  refine spec_of_sw Try.func33 rfl ?_
  refine sw_seq ?_
  refine sl_region ?_
  refine sl_as rfl rfl rfl ?_
  refine sl_nil ?_
  refine sw_seq ?_
  refine sl_region ?_
  refine sl_mv rfl rfl rfl ?_
  refine sl_nc rfl rfl rfl rfl ?_
  first
    | refine sl_fieldAddr_ptr rfl rfl rfl fo_60_0 ?_
    | refine sl_fieldAddr_rp rfl rfl rfl fo_60_0 ?_
    | refine sl_fieldAddr_ref rfl rfl rfl fo_60_0 ?_
  first
    | refine sl_load_rp1 rfl rfl rfl ag_57 rfl ?_
    | refine sl_load_blk1 rfl rfl rfl ag_57 (by repeat constructor) rfl ?_
  refine sl_callf rfl rfl cal_40 (pNum_ok q st c (.blk p [.ptr q 0, .val (.bool wr)] :: σ) h) ?_ ?_ ?_ (fun _ _ h => h.elim)
  · repeat constructor
  · repeat constructor
  rintro _ _ ⟨rfl, c2, h2, rfl⟩
  have hlt : (rdOf (decN 0) 0 st).1 < 18446744073709551616 := rdOf_lt
  obtain ⟨n, hn⟩ : ∃ b, b = (rdOf (decN 0) 0 st).1 := ⟨_, rfl⟩
  rw [← hn] at hlt ⊢
  refine sl_as rfl rfl rfl ?_
  refine sl_nil ?_
  refine sw_seq ?_
  refine sl_region ?_
  refine sl_mv rfl rfl rfl ?_
  refine sl_mv rfl rfl rfl ?_
  refine sl_nc rfl rfl rfl rfl ?_
  first
    | refine sl_fieldAddr_ptr rfl rfl rfl fo_60_1 ?_
    | refine sl_fieldAddr_rp rfl rfl rfl fo_60_1 ?_
    | refine sl_fieldAddr_ref rfl rfl rfl fo_60_1 ?_
  first
    | refine sl_load_rp1 rfl rfl rfl ag_4 rfl ?_
    | refine sl_load_blk1 rfl rfl rfl ag_4 (by repeat constructor) rfl ?_
  refine sl_mv rfl rfl rfl ?_
  refine sl_case_at 18 rfl (fun hw => ?_) (fun hw => ?_)
  · have hw1 : wr = true := hw
    refine sl_guard_n rfl rfl rfl hw ?_
    refine sl_guard_n rfl rfl rfl hw ?_
    refine sl_guard_n rfl rfl rfl hw ?_
    refine sl_pk_t rfl rfl rfl hw rfl ?_
    refine sl_mv rfl rfl rfl ?_
    refine sl_guard_n rfl rfl rfl (rfl) ?_
    refine sl_guard_n rfl rfl rfl (rfl) ?_
    refine sl_guard_n rfl rfl rfl (rfl) ?_
    refine sl_pk_t rfl rfl rfl (rfl) rfl ?_
    refine sl_nc rfl rfl rfl rfl ?_
    first
      | refine sl_fieldAddr_ptr rfl rfl rfl fo_60_1 ?_
      | refine sl_fieldAddr_rp rfl rfl rfl fo_60_1 ?_
      | refine sl_fieldAddr_ref rfl rfl rfl fo_60_1 ?_
    refine sl_stp rfl rfl rfl rfl sz_4 rfl rfl rfl (by repeat constructor) (Nat.le_of_ble_eq_true rfl) ?_
    refine sl_nil ?_
    refine sw_seq ?_
    refine sl_region ?_
    refine sl_mv rfl rfl rfl ?_
    refine sl_bin rfl rfl rfl rfl rfl ?_
    refine sl_set 31 (.val (.int .u64 ((n % 2147483648 : Nat) : Int))) (low31 hlt) ?_
    refine sl_conv_int rfl rfl rfl is_62 u_3 ?_
    refine sl_set 32 (.val (.int .i64 ((n % 2147483648 : Nat) : Int))) (congrArg (fun z => D.val (.int .i64 z)) (wrap_i64 (n := ((n % 2147483648 : Nat) : Int)) (by omega) (by omega))) ?_
    refine sl_as rfl rfl rfl ?_
    refine sl_nil ?_
    refine sw_ret ⟨rfl, _, _, res_one rfl rfl, ?_, ⟨n % 2147483648, true, _, c2, rfl, kind_wrong (.inl hw1), h2, rfl⟩⟩
    repeat constructor
  have hw1 : wr = false := hw
  subst hw1
  refine sl_guard_y rfl rfl rfl hw ?_
  refine sl_mv rfl rfl rfl ?_
  refine sl_guard_y rfl rfl rfl hw ?_
  refine sl_mv rfl rfl rfl ?_
  refine sl_guard_y rfl rfl rfl hw ?_
  refine sl_bin rfl rfl rfl rfl rfl ?_
  refine sl_pk_f rfl rfl rfl hw rfl ?_
  refine sl_mv rfl rfl rfl ?_
  refine sl_case_at 23 rfl (fun ha => ?_) (fun ha => ?_)
  · have ha1 : ¬ lo ≤ n := by have := of_decide_eq_true ha; omega
    refine sl_guard_n rfl rfl rfl ha ?_
    refine sl_guard_n rfl rfl rfl ha ?_
    refine sl_guard_n rfl rfl rfl ha ?_
    refine sl_pk_t rfl rfl rfl ha rfl ?_
    refine sl_nc rfl rfl rfl rfl ?_
    first
      | refine sl_fieldAddr_ptr rfl rfl rfl fo_60_1 ?_
      | refine sl_fieldAddr_rp rfl rfl rfl fo_60_1 ?_
      | refine sl_fieldAddr_ref rfl rfl rfl fo_60_1 ?_
    refine sl_stp rfl rfl rfl rfl sz_4 rfl rfl rfl (by repeat constructor) (Nat.le_of_ble_eq_true rfl) ?_
    refine sl_nil ?_
    refine sw_seq ?_
    refine sl_region ?_
    refine sl_mv rfl rfl rfl ?_
    refine sl_bin rfl rfl rfl rfl rfl ?_
    refine sl_set 31 (.val (.int .u64 ((n % 2147483648 : Nat) : Int))) (low31 hlt) ?_
    refine sl_conv_int rfl rfl rfl is_62 u_3 ?_
    refine sl_set 32 (.val (.int .i64 ((n % 2147483648 : Nat) : Int))) (congrArg (fun z => D.val (.int .i64 z)) (wrap_i64 (n := ((n % 2147483648 : Nat) : Int)) (by omega) (by omega))) ?_
    refine sl_as rfl rfl rfl ?_
    refine sl_nil ?_
    refine sw_ret ⟨rfl, _, _, res_one rfl rfl, ?_, ⟨n % 2147483648, true, _, c2, rfl, kind_wrong (.inr (fun h => ha1 (by rw [hn]; exact h.1))), h2, rfl⟩⟩
    repeat constructor
  have ha1 : lo ≤ n := by have := of_decide_eq_false ha; omega
  refine sl_guard_y rfl rfl rfl ha ?_
  refine sl_mv rfl rfl rfl ?_
  refine sl_guard_y rfl rfl rfl ha ?_
  refine sl_mv rfl rfl rfl ?_
  refine sl_guard_y rfl rfl rfl ha ?_
  refine sl_bin rfl rfl rfl rfl rfl ?_
  refine sl_pk_f rfl rfl rfl ha rfl ?_
  refine sl_nc rfl rfl rfl rfl ?_
  first
    | refine sl_fieldAddr_ptr rfl rfl rfl fo_60_1 ?_
    | refine sl_fieldAddr_rp rfl rfl rfl fo_60_1 ?_
    | refine sl_fieldAddr_ref rfl rfl rfl fo_60_1 ?_
  refine sl_stp rfl rfl rfl rfl sz_4 rfl rfl rfl (by repeat constructor) (Nat.le_of_ble_eq_true rfl) ?_
  refine sl_nil ?_
  refine sw_seq ?_
  refine sl_region ?_
  refine sl_mv rfl rfl rfl ?_
  refine sl_bin rfl rfl rfl rfl rfl ?_
  refine sl_set 31 (.val (.int .u64 ((n % 2147483648 : Nat) : Int))) (low31 hlt) ?_
  refine sl_conv_int rfl rfl rfl is_62 u_3 ?_
  refine sl_set 32 (.val (.int .i64 ((n % 2147483648 : Nat) : Int))) (congrArg (fun z => D.val (.int .i64 z)) (wrap_i64 (n := ((n % 2147483648 : Nat) : Int)) (by omega) (by omega))) ?_
  refine sl_as rfl rfl rfl ?_
  refine sl_nil ?_
  refine sw_ret ⟨rfl, _, _, res_one rfl rfl, ?_, kind_last hn ha1 hhi h2⟩
  repeat constructor

/-- small reads a number of 32 bits. -/
theorem qsmall_ok (p q : Nat) (wr : Bool) (st : Option (List UInt8)) (c : Chunk) (σ : List Chunk) (h : Rdr q st c) :
    FSpec Try.prog 35 [.ptr p 0] (.blk p [.ptr q 0, .val (.bool wr)] :: c :: σ)
      (fun d σ' => ∃ n wr' st' c', d = .val (.int .i64 n) ∧ Out decS (eff wr st) n (eff wr' st') ∧ Rdr q st' c' ∧ σ' = .blk p [.ptr q 0, .val (.bool wr')] :: c' :: σ) := by
  refine spec_of_sw Try.func35 rfl ?_
  refine sw_seq ?_
  refine sl_region ?_
  refine sl_as rfl rfl rfl ?_
  refine sl_nil ?_
  refine sw_seq ?_
  refine sl_region ?_
  refine sl_mv rfl rfl rfl ?_
  refine sl_nc rfl rfl rfl rfl ?_
  first
    | refine sl_fieldAddr_ptr rfl rfl rfl fo_60_0 ?_
    | refine sl_fieldAddr_rp rfl rfl rfl fo_60_0 ?_
    | refine sl_fieldAddr_ref rfl rfl rfl fo_60_0 ?_
  first
    | refine sl_load_rp1 rfl rfl rfl ag_57 rfl ?_
    | refine sl_load_blk1 rfl rfl rfl ag_57 (by repeat constructor) rfl ?_
  refine sl_callf rfl rfl cal_59 (pInt_ok q st c (.blk p [.ptr q 0, .val (.bool wr)] :: σ) h) ?_ ?_ ?_ (fun _ _ h => h.elim)
  · repeat constructor
  · repeat constructor
  rintro _ _ ⟨rfl, c2, h2, rfl⟩
  refine sl_as rfl rfl rfl ?_
  refine sl_nil ?_
  refine sw_seq ?_
  refine sl_region ?_
  refine sl_mv rfl rfl rfl ?_
  refine sl_mv rfl rfl rfl ?_
  refine sl_nc rfl rfl rfl rfl ?_
  first
    | refine sl_fieldAddr_ptr rfl rfl rfl fo_60_1 ?_
    | refine sl_fieldAddr_rp rfl rfl rfl fo_60_1 ?_
    | refine sl_fieldAddr_ref rfl rfl rfl fo_60_1 ?_
  first
    | refine sl_load_rp1 rfl rfl rfl ag_4 rfl ?_
    | refine sl_load_blk1 rfl rfl rfl ag_4 (by repeat constructor) rfl ?_
  refine sl_mv rfl rfl rfl ?_
  refine sl_case_at 14 rfl (fun hw => ?_) (fun hw => ?_)
  · have hw1 : wr = true := hw
    refine sl_guard_n rfl rfl rfl hw ?_
    refine sl_guard_n rfl rfl rfl hw ?_
    refine sl_pk_t rfl rfl rfl hw rfl ?_
    refine sl_mv rfl rfl rfl ?_
    refine sl_guard_n rfl rfl rfl (rfl) ?_
    refine sl_guard_n rfl rfl rfl (rfl) ?_
    refine sl_pk_t rfl rfl rfl (rfl) rfl ?_
    refine sl_nc rfl rfl rfl rfl ?_
    first
      | refine sl_fieldAddr_ptr rfl rfl rfl fo_60_1 ?_
      | refine sl_fieldAddr_rp rfl rfl rfl fo_60_1 ?_
      | refine sl_fieldAddr_ref rfl rfl rfl fo_60_1 ?_
    refine sl_stp rfl rfl rfl rfl sz_4 rfl rfl rfl (by repeat constructor) (Nat.le_of_ble_eq_true rfl) ?_
    refine sl_nil ?_
    refine sw_seq ?_
    refine sl_region ?_
    refine sl_mv rfl rfl rfl ?_
    refine sl_as rfl rfl rfl ?_
    refine sl_nil ?_
    refine sw_ret ⟨rfl, _, _, res_one rfl rfl, ?_, ⟨_, true, _, c2, rfl, small_wrong (.inl hw1), h2, rfl⟩⟩
    repeat constructor
  have hw1 : wr = false := hw
  subst hw1
  refine sl_guard_y rfl rfl rfl hw ?_
  refine sl_mv rfl rfl rfl ?_
  refine sl_guard_y rfl rfl rfl hw ?_
  refine sl_bin rfl rfl rfl rfl rfl ?_
  refine sl_pk_f rfl rfl rfl hw rfl ?_
  refine sl_mv rfl rfl rfl ?_
  refine sl_case_at 18 rfl (fun ha => ?_) (fun ha => ?_)
  · refine sl_guard_n rfl rfl rfl ha ?_
    refine sl_guard_n rfl rfl rfl ha ?_
    refine sl_pk_t rfl rfl rfl ha rfl ?_
    refine sl_nc rfl rfl rfl rfl ?_
    first
      | refine sl_fieldAddr_ptr rfl rfl rfl fo_60_1 ?_
      | refine sl_fieldAddr_rp rfl rfl rfl fo_60_1 ?_
      | refine sl_fieldAddr_ref rfl rfl rfl fo_60_1 ?_
    refine sl_stp rfl rfl rfl rfl sz_4 rfl rfl rfl (by repeat constructor) (Nat.le_of_ble_eq_true rfl) ?_
    refine sl_nil ?_
    refine sw_seq ?_
    refine sl_region ?_
    refine sl_mv rfl rfl rfl ?_
    refine sl_as rfl rfl rfl ?_
    refine sl_nil ?_
    refine sw_ret ⟨rfl, _, _, res_one rfl rfl, ?_, ⟨_, true, _, c2, rfl, small_wrong (.inr (fun h => by have := of_decide_eq_true ha; have := h.1; omega)), h2, rfl⟩⟩
    repeat constructor
  refine sl_guard_y rfl rfl rfl ha ?_
  refine sl_mv rfl rfl rfl ?_
  refine sl_guard_y rfl rfl rfl ha ?_
  refine sl_bin rfl rfl rfl rfl rfl ?_
  refine sl_pk_f rfl rfl rfl ha rfl ?_
  refine sl_nc rfl rfl rfl rfl ?_
  first
    | refine sl_fieldAddr_ptr rfl rfl rfl fo_60_1 ?_
    | refine sl_fieldAddr_rp rfl rfl rfl fo_60_1 ?_
    | refine sl_fieldAddr_ref rfl rfl rfl fo_60_1 ?_
  refine sl_stp rfl rfl rfl rfl sz_4 rfl rfl rfl (by repeat constructor) (Nat.le_of_ble_eq_true rfl) ?_
  refine sl_nil ?_
  refine sw_seq ?_
  refine sl_region ?_
  refine sl_mv rfl rfl rfl ?_
  refine sl_as rfl rfl rfl ?_
  refine sl_nil ?_
  refine sw_ret ⟨rfl, _, _, res_one rfl rfl, ?_, small_last (by have := of_decide_eq_false ha; omega) h2⟩
  repeat constructor

end Go.Proofs.Ytipacoopapjdpaa

/- Walks: printed by a program of this session out of its script ReqB. -/
namespace Go.Proofs.Ytipacoopapjdpaa
set_option linter.unusedVariables false
set_option linter.unusedSimpArgs false
set_option maxRecDepth 4000
set_option maxHeartbeats 4000000
open Go Go.RowKit SL


/-- Bytes tells a request's bytes. -/
theorem qbytes_ok (r : Req) (σ : List Chunk) (hok : ReqOk r) (hn : r.name.length ≤ 1000000) (ht : r.text.length ≤ 1000000) :
    FSpec Try.prog 30 [.val (reqV r)] σ (fun d σ' => d = .val (.list ((encReq r).map byteV)) ∧ σ' = σ) := by
  refine spec_of_sw Try.func30 rfl ?_
  refine sw_seq ?_
  refine sl_region ?_
  refine sl_bx_imm rfl rfl rfl rfl rfl ?_
  refine sl_as rfl rfl rfl ?_
  refine sl_nil ?_
  refine sw_seq ?_
  refine sl_region ?_
  refine sl_callf rfl rfl cal_50 (newWriter_ok σ) ?_ ?_ ?_ (fun _ _ h => h.elim)
  · repeat constructor
  · repeat constructor
  rintro _ _ ⟨p, v, rfl, rfl⟩
  refine sl_as rfl rfl rfl ?_
  refine sl_nil ?_
  refine sw_seq ?_
  refine sa_start [] mixed ?_
  refine sa_take 0 rfl rfl (by kernel_rfl) .nil (pu_mv rfl rfl) ?_
  refine sa_take 1 rfl rfl (by kernel_rfl) .nil (pu_nc rfl rfl rfl) ?_
  first
    | refine sa_take 2 rfl rfl (by kernel_rfl) .nil (pu_fieldAddr_ptr rfl rfl fo_83_0) ?_
    | refine sa_take 2 rfl rfl (by kernel_rfl) .nil (pu_fieldAddr_rp rfl rfl fo_83_0) ?_
    | refine sa_take 2 rfl rfl (by kernel_rfl) .nil (pu_fieldAddr_ref rfl rfl fo_83_0) ?_
  first
    | refine sa_take 3 rfl rfl (by kernel_rfl) .nil (pu_fieldAddr_ptr rfl rfl fo_24_0) ?_
    | refine sa_take 3 rfl rfl (by kernel_rfl) .nil (pu_fieldAddr_rp rfl rfl fo_24_0) ?_
    | refine sa_take 3 rfl rfl (by kernel_rfl) .nil (pu_fieldAddr_ref rfl rfl fo_24_0) ?_
  refine sa_take 4 rfl rfl (by kernel_rfl) .nil (pu_load_rp1 rfl rfl ag_3 rfl) ?_
  refine sa_take 5 rfl rfl (by kernel_rfl) .nil (pu_max rfl rfl rfl) ?_
  refine sa_take 6 rfl rfl (by kernel_rfl) .nil (pu_conv_int rfl rfl is_3 u_62) ?_
  refine sa_set 11 (.val (u64V r.kind.toNat)) (max_u64 hok.1) ?_
  refine sa_one 7 (by kernel_rfl) rfl ?_
  refine sl_bs1 rfl rfl (.cons rfl .nil) u_109 sz_62 zs_62 (by decide) rfl rfl rfl rfl ?_
  refine sl_nil ⟨.nil, ?_⟩
  refine sa_one 8 (by kernel_rfl) rfl ?_
  refine sl_callf rfl rfl cal_51 (num_ok p v [] [r.kind.toNat] σ (by intro n hn; rw [List.mem_singleton.mp hn]; exact kind_lt hok.1) (by simp only [List.length_cons, List.length_nil]; omega)) ?_ ?_ ?_ (fun _ _ h => h.elim)
  · repeat constructor
  · repeat constructor
  rintro _ _ ⟨rfl, v2, rfl⟩
  refine sl_nil ⟨.nil, ?_⟩
  have e1 : ([] : List UInt8) ++ [r.kind.toNat].flatMap encNum = encNum r.kind.toNat := by simp
  rw [e1]
  have h1 := encNum_len (kind_lt hok.1)
  refine sa_done (by kernel_rfl) ?_
  refine sw_seq ?_
  refine sa_start [] mixed ?_
  refine sa_take 0 rfl rfl (by kernel_rfl) .nil (pu_mv rfl rfl) ?_
  refine sa_take 1 rfl rfl (by kernel_rfl) .nil (pu_nc rfl rfl rfl) ?_
  first
    | refine sa_take 2 rfl rfl (by kernel_rfl) .nil (pu_fieldAddr_ptr rfl rfl fo_83_0) ?_
    | refine sa_take 2 rfl rfl (by kernel_rfl) .nil (pu_fieldAddr_rp rfl rfl fo_83_0) ?_
    | refine sa_take 2 rfl rfl (by kernel_rfl) .nil (pu_fieldAddr_ref rfl rfl fo_83_0) ?_
  first
    | refine sa_take 3 rfl rfl (by kernel_rfl) .nil (pu_fieldAddr_ptr rfl rfl fo_24_1) ?_
    | refine sa_take 3 rfl rfl (by kernel_rfl) .nil (pu_fieldAddr_rp rfl rfl fo_24_1) ?_
    | refine sa_take 3 rfl rfl (by kernel_rfl) .nil (pu_fieldAddr_ref rfl rfl fo_24_1) ?_
  refine sa_take 4 rfl rfl (by kernel_rfl) .nil (pu_load_rp1 rfl rfl ag_9 rfl) ?_
  first
    | refine sa_take 5 rfl rfl (by kernel_rfl) .nil (pu_fieldAddr_ptr rfl rfl fo_24_2) ?_
    | refine sa_take 5 rfl rfl (by kernel_rfl) .nil (pu_fieldAddr_rp rfl rfl fo_24_2) ?_
    | refine sa_take 5 rfl rfl (by kernel_rfl) .nil (pu_fieldAddr_ref rfl rfl fo_24_2) ?_
  refine sa_take 6 rfl rfl (by kernel_rfl) .nil (pu_load_rp1 rfl rfl ag_9 rfl) ?_
  refine sa_one 7 (by kernel_rfl) rfl ?_
  refine sl_bs1 rfl rfl (.cons rfl (.cons rfl .nil)) u_38 sz_9 zs_9 (by decide) rfl rfl rfl rfl ?_
  refine sl_nil ⟨.nil, ?_⟩
  refine sa_one 8 (by kernel_rfl) rfl ?_
  refine sl_callf rfl rfl cal_52 (text_ok p v2 (encNum r.kind.toNat) [r.name, r.text] 1000000 σ (by intro s hs; simp at hs; rcases hs with rfl | rfl; exact hn; exact ht) (by simp only [List.length_cons, List.length_nil]; omega)) ?_ ?_ ?_ (fun _ _ h => h.elim)
  · repeat constructor
  · repeat constructor
  rintro _ _ ⟨rfl, v3, rfl⟩
  refine sl_nil ⟨.nil, ?_⟩
  have e2 : encNum r.kind.toNat ++ [r.name, r.text].flatMap encText = encNum r.kind.toNat ++ encText r.name ++ encText r.text := by simp
  rw [e2]
  have h2 := encText_lenc hn (by decide)
  have h3 := encText_lenc ht (by decide)
  refine sa_done (by kernel_rfl) ?_
  refine sw_seq ?_
  refine sa_start [] mixed ?_
  refine sa_take 0 rfl rfl (by kernel_rfl) .nil (pu_mv rfl rfl) ?_
  refine sa_take 1 rfl rfl (by kernel_rfl) .nil (pu_nc rfl rfl rfl) ?_
  first
    | refine sa_take 2 rfl rfl (by kernel_rfl) .nil (pu_fieldAddr_ptr rfl rfl fo_83_0) ?_
    | refine sa_take 2 rfl rfl (by kernel_rfl) .nil (pu_fieldAddr_rp rfl rfl fo_83_0) ?_
    | refine sa_take 2 rfl rfl (by kernel_rfl) .nil (pu_fieldAddr_ref rfl rfl fo_83_0) ?_
  first
    | refine sa_take 3 rfl rfl (by kernel_rfl) .nil (pu_fieldAddr_ptr rfl rfl fo_24_3) ?_
    | refine sa_take 3 rfl rfl (by kernel_rfl) .nil (pu_fieldAddr_rp rfl rfl fo_24_3) ?_
    | refine sa_take 3 rfl rfl (by kernel_rfl) .nil (pu_fieldAddr_ref rfl rfl fo_24_3) ?_
  refine sa_take 4 rfl rfl (by kernel_rfl) .nil (pu_load_rp1 rfl rfl ag_3 rfl) ?_
  refine sa_one 5 (by kernel_rfl) rfl ?_
  refine sl_bs1 rfl rfl (.cons rfl .nil) u_110 sz_2 zs_2 (by decide) rfl rfl rfl rfl ?_
  refine sl_nil ⟨.nil, ?_⟩
  refine sa_one 6 (by kernel_rfl) rfl ?_
  refine sl_callf rfl rfl cal_53 (int_ok p v3 (encNum r.kind.toNat ++ encText r.name ++ encText r.text) [r.n] σ (by intro n hn; rw [List.mem_singleton.mp hn]; exact hok.2) (by simp only [List.length_append, List.length_cons, List.length_nil]; omega)) ?_ ?_ ?_ (fun _ _ h => h.elim)
  · repeat constructor
  · repeat constructor
  rintro _ _ ⟨rfl, v4, rfl⟩
  refine sl_nil ⟨.nil, ?_⟩
  have e3 : encNum r.kind.toNat ++ encText r.name ++ encText r.text ++ [r.n].flatMap encInt = encReq r := by simp [encReq]
  rw [e3]
  have h4 := encReq_len hok (c := 1000000) (by decide) hn ht
  refine sa_done (by kernel_rfl) ?_
  refine sw_seq ?_
  refine sl_region ?_
  refine sl_mv rfl rfl rfl ?_
  refine sl_nc rfl rfl rfl rfl ?_
  first
    | refine sl_fieldAddr_ptr rfl rfl rfl fo_83_0 ?_
    | refine sl_fieldAddr_rp rfl rfl rfl fo_83_0 ?_
    | refine sl_fieldAddr_ref rfl rfl rfl fo_83_0 ?_
  refine sl_callf rfl rfl cal_54 (bytes_ok p v4 (encReq r) (.spare v4 1 :: σ) (by omega)) ?_ ?_ ?_ (fun _ _ h => h.elim)
  · repeat constructor
  · repeat constructor
  rintro _ _ ⟨rfl, rfl⟩
  refine sl_as rfl rfl rfl ?_
  refine sl_nil ?_
  refine sw_ret ⟨rfl, _, _, res_one rfl rfl, ?_, ⟨rfl, rfl⟩⟩
  repeat constructor

/-- ReplyBytes tells a reply's bytes. -/
theorem qreply_ok (r : Rep) (σ : List Chunk) (hok : RepOk r) (hn : r.alarms.length ≤ 1000) (ht : r.text.length ≤ 1000000) :
    FSpec Try.prog 31 [.val (repV r)] σ (fun d σ' => d = .val (.list ((encRep r).map byteV)) ∧ σ' = σ) := by
  obtain ⟨hk, he, hp, hnn, ha⟩ := hok
  refine spec_of_sw Try.func31 rfl ?_
  refine sw_seq ?_
  refine sl_region ?_
  refine sl_bx_imm rfl rfl rfl rfl rfl ?_
  refine sl_as rfl rfl rfl ?_
  refine sl_nil ?_
  refine sw_seq ?_
  refine sl_region ?_
  refine sl_callf rfl rfl cal_50 (newWriter_ok σ) ?_ ?_ ?_ (fun _ _ h => h.elim)
  · repeat constructor
  · repeat constructor
  rintro _ _ ⟨p, v, rfl, rfl⟩
  refine sl_as rfl rfl rfl ?_
  refine sl_nil ?_
  refine sw_seq ?_
  refine sa_start [] mixed ?_
  refine sa_take 0 rfl rfl (by kernel_rfl) .nil (pu_mv rfl rfl) ?_
  refine sa_take 1 rfl rfl (by kernel_rfl) .nil (pu_nc rfl rfl rfl) ?_
  first
    | refine sa_take 2 rfl rfl (by kernel_rfl) .nil (pu_fieldAddr_ptr rfl rfl fo_83_0) ?_
    | refine sa_take 2 rfl rfl (by kernel_rfl) .nil (pu_fieldAddr_rp rfl rfl fo_83_0) ?_
    | refine sa_take 2 rfl rfl (by kernel_rfl) .nil (pu_fieldAddr_ref rfl rfl fo_83_0) ?_
  first
    | refine sa_take 3 rfl rfl (by kernel_rfl) .nil (pu_fieldAddr_ptr rfl rfl fo_32_0) ?_
    | refine sa_take 3 rfl rfl (by kernel_rfl) .nil (pu_fieldAddr_rp rfl rfl fo_32_0) ?_
    | refine sa_take 3 rfl rfl (by kernel_rfl) .nil (pu_fieldAddr_ref rfl rfl fo_32_0) ?_
  refine sa_take 4 rfl rfl (by kernel_rfl) .nil (pu_load_rp1 rfl rfl ag_3 rfl) ?_
  refine sa_take 5 rfl rfl (by kernel_rfl) .nil (pu_max rfl rfl rfl) ?_
  refine sa_take 6 rfl rfl (by kernel_rfl) .nil (pu_conv_int rfl rfl is_3 u_62) ?_
  refine sa_set 13 (.val (u64V r.kind.toNat)) (max_u64 hk) ?_
  refine sa_one 7 (by kernel_rfl) rfl ?_
  refine sl_bs1 rfl rfl (.cons rfl .nil) u_109 sz_62 zs_62 (by decide) rfl rfl rfl rfl ?_
  refine sl_nil ⟨.nil, ?_⟩
  refine sa_one 8 (by kernel_rfl) rfl ?_
  refine sl_callf rfl rfl cal_51 (num_ok p v [] [r.kind.toNat] σ (by intro n hn; rw [List.mem_singleton.mp hn]; exact kind_lt hk) (by simp only [List.length_cons, List.length_nil]; omega)) ?_ ?_ ?_ (fun _ _ h => h.elim)
  · repeat constructor
  · repeat constructor
  rintro _ _ ⟨rfl, v2, rfl⟩
  refine sl_nil ⟨.nil, ?_⟩
  have e1 : ([] : List UInt8) ++ [r.kind.toNat].flatMap encNum = encNum r.kind.toNat := by simp
  rw [e1]
  have h1 := encNum_len (kind_lt hk)
  refine sa_done (by kernel_rfl) ?_
  refine sw_seq ?_
  refine sa_start [] mixed ?_
  refine sa_take 0 rfl rfl (by kernel_rfl) .nil (pu_mv rfl rfl) ?_
  refine sa_take 1 rfl rfl (by kernel_rfl) .nil (pu_nc rfl rfl rfl) ?_
  first
    | refine sa_take 2 rfl rfl (by kernel_rfl) .nil (pu_fieldAddr_ptr rfl rfl fo_83_0) ?_
    | refine sa_take 2 rfl rfl (by kernel_rfl) .nil (pu_fieldAddr_rp rfl rfl fo_83_0) ?_
    | refine sa_take 2 rfl rfl (by kernel_rfl) .nil (pu_fieldAddr_ref rfl rfl fo_83_0) ?_
  first
    | refine sa_take 3 rfl rfl (by kernel_rfl) .nil (pu_fieldAddr_ptr rfl rfl fo_32_1) ?_
    | refine sa_take 3 rfl rfl (by kernel_rfl) .nil (pu_fieldAddr_rp rfl rfl fo_32_1) ?_
    | refine sa_take 3 rfl rfl (by kernel_rfl) .nil (pu_fieldAddr_ref rfl rfl fo_32_1) ?_
  refine sa_take 4 rfl rfl (by kernel_rfl) .nil (pu_load_rp1 rfl rfl ag_25 rfl) ?_
  first
    | refine sa_take 5 rfl rfl (by kernel_rfl) .nil (pu_fieldAddr_ptr rfl rfl fo_32_2) ?_
    | refine sa_take 5 rfl rfl (by kernel_rfl) .nil (pu_fieldAddr_rp rfl rfl fo_32_2) ?_
    | refine sa_take 5 rfl rfl (by kernel_rfl) .nil (pu_fieldAddr_ref rfl rfl fo_32_2) ?_
  refine sa_take 6 rfl rfl (by kernel_rfl) .nil (pu_load_rp1 rfl rfl ag_3 rfl) ?_
  refine sa_one 7 (by kernel_rfl) rfl ?_
  refine sl_bs1 rfl rfl (.cons rfl (.cons rfl .nil)) u_110 sz_2 zs_2 (by decide) rfl rfl rfl rfl ?_
  refine sl_nil ⟨.nil, ?_⟩
  refine sa_one 8 (by kernel_rfl) rfl ?_
  refine sl_callf rfl rfl cal_53 (int_ok p v2 (encNum r.kind.toNat) [r.err, r.pos] σ (by intro n hn; simp at hn; rcases hn with rfl | rfl; exact he; exact hp) (by simp only [List.length_cons, List.length_nil]; omega)) ?_ ?_ ?_ (fun _ _ h => h.elim)
  · repeat constructor
  · repeat constructor
  rintro _ _ ⟨rfl, v3, rfl⟩
  refine sl_nil ⟨.nil, ?_⟩
  have e2 : encNum r.kind.toNat ++ [r.err, r.pos].flatMap encInt = encNum r.kind.toNat ++ encInt r.err ++ encInt r.pos := by simp
  rw [e2]
  have h2 := encInt_len he
  have h3 := encInt_len hp
  obtain ⟨m1, hm1⟩ : ∃ m1, m1 = encNum r.kind.toNat ++ encInt r.err ++ encInt r.pos := ⟨_, rfl⟩
  have hl1 : m1.length ≤ 30 := by rw [hm1]; simp only [List.length_append]; omega
  rw [← hm1]
  refine sa_done (by kernel_rfl) ?_
  refine sw_seq ?_
  refine sa_start [] mixed ?_
  refine sa_take 0 rfl rfl (by kernel_rfl) .nil (pu_mv rfl rfl) ?_
  refine sa_take 1 rfl rfl (by kernel_rfl) .nil (pu_nc rfl rfl rfl) ?_
  first
    | refine sa_take 2 rfl rfl (by kernel_rfl) .nil (pu_fieldAddr_ptr rfl rfl fo_83_0) ?_
    | refine sa_take 2 rfl rfl (by kernel_rfl) .nil (pu_fieldAddr_rp rfl rfl fo_83_0) ?_
    | refine sa_take 2 rfl rfl (by kernel_rfl) .nil (pu_fieldAddr_ref rfl rfl fo_83_0) ?_
  first
    | refine sa_take 3 rfl rfl (by kernel_rfl) .nil (pu_fieldAddr_ptr rfl rfl fo_32_3) ?_
    | refine sa_take 3 rfl rfl (by kernel_rfl) .nil (pu_fieldAddr_rp rfl rfl fo_32_3) ?_
    | refine sa_take 3 rfl rfl (by kernel_rfl) .nil (pu_fieldAddr_ref rfl rfl fo_32_3) ?_
  refine sa_take 4 rfl rfl (by kernel_rfl) .nil (pu_load_rp1 rfl rfl ag_30 rfl) ?_
  first
    | refine sa_take 5 rfl rfl (by kernel_rfl) .nil (pu_len rfl rfl ⟨_, u_30⟩) ?_
    | refine sa_take 5 rfl rfl (by kernel_rfl) .nil (pu_len_sl rfl rfl ⟨_, u_30⟩) ?_
    | refine sa_take 5 rfl rfl (by kernel_rfl) .nil (pu_len_w _ rfl rfl ⟨_, u_30⟩) ?_
  refine sa_take 6 rfl rfl (by kernel_rfl) .nil (pu_conv_int rfl rfl is_3 u_62) ?_
  refine sa_set 31 (.val (u64V r.alarms.length)) (len_u64m almV (by omega)) ?_
  refine sa_one 7 (by kernel_rfl) rfl ?_
  refine sl_bs1 rfl rfl (.cons rfl .nil) u_109 sz_62 zs_62 (by decide) rfl rfl rfl rfl ?_
  refine sl_nil ⟨.nil, ?_⟩
  refine sa_one 8 (by kernel_rfl) rfl ?_
  refine sl_callf rfl rfl cal_51 (num_ok p v3 m1 [r.alarms.length] σ (by intro n hn; rw [List.mem_singleton.mp hn]; omega) (by simp only [List.length_cons, List.length_nil]; omega)) ?_ ?_ ?_ (fun _ _ h => h.elim)
  · repeat constructor
  · repeat constructor
  rintro _ _ ⟨rfl, v4, rfl⟩
  refine sl_nil ⟨.nil, ?_⟩
  have e3 : m1 ++ [r.alarms.length].flatMap encNum = m1 ++ encNum r.alarms.length := by simp
  rw [e3]
  have h4 := encNum_len (n := r.alarms.length) (by omega)
  refine sa_done (by kernel_rfl) ?_
  refine sw_seq ?_
  refine sw_seq ?_
  refine sl_region ?_
  first
    | refine sl_fieldAddr_ptr rfl rfl rfl fo_32_3 ?_
    | refine sl_fieldAddr_rp rfl rfl rfl fo_32_3 ?_
    | refine sl_fieldAddr_ref rfl rfl rfl fo_32_3 ?_
  first
    | refine sl_load_rp1 rfl rfl rfl ag_30 rfl ?_
    | refine sl_load_blk1 rfl rfl rfl ag_30 (by repeat constructor) rfl ?_
  first
    | refine sl_len rfl rfl rfl ⟨_, u_30⟩ ?_
    | refine sl_len_sl rfl rfl rfl ⟨_, u_30⟩ ?_
    | refine sl_len_w _ rfl rfl rfl ⟨_, u_30⟩ ?_
  refine sl_set 36 (.val (.int .i64 (r.alarms.length : Int))) (len_eq (List.length_map ..)) ?_
  refine sl_mv rfl rfl rfl ?_
  refine sl_nil ?_
  refine sw_block ?_
  refine sw_loopw (fun nX sX δX σX => ∃ (j : Nat) (v : Value) (m : List UInt8), (r.alarms.length - j) = nX ∧ sX = ⟨69, (.cons 1 (.rp [.int .i64 r.kind, .int .i64 r.err, .int .i64 r.pos, .list (r.alarms.map almV), .str r.text, .int .i64 r.n]) (.cons 3 (.ptr p 0) (.cons 35 (.val (.list (r.alarms.map almV))) (.cons 36 (.val (.int .i64 (r.alarms.length : Int))) (.cons 37 (.val (.int .i64 (j : Int))) .nil)))))⟩ ∧ δX = [] ∧ σX = .blk p [.own v (m.map byteV)] :: .spare v 1 :: σ ∧ (j ≤ r.alarms.length) ∧ (m = m1 ++ encNum r.alarms.length ++ (r.alarms.take j).flatMap encAlarm)) ?_ ?_
  · refine ⟨_, _, _, ?_, ?_, 0, v4, m1 ++ encNum r.alarms.length, rfl, rfl, rfl, rfl, (Nat.zero_le _), (by simp)⟩
    · exact ⟨rfl, by repeat constructor⟩
    · repeat constructor
  rintro nX sX δX σX ⟨j, v, m, rfl, rfl, rfl, rfl, hj0, hm2⟩
  refine sw_seq ?_
  refine sl_region ?_
  refine sl_bin rfl rfl rfl rfl rfl ?_
  refine sl_nil ?_
  refine sw_seq ?_
  refine sw_cond rfl (fun hj => ?_) (fun hj => ?_)
  · have hj : j < r.alarms.length := by simpa using hj
    have hao1 := ha r.alarms[j] (List.getElem_mem hj)
    have hm2l : m.length + 100 ≤ 100000000 := by
      have := flat_len (f := encAlarm) (c := 20) (ns := r.alarms) (fun a h => encAlarm_len (ha a h)) j
      rw [hm2]; simp only [List.length_append]; omega
    refine sw_skip ?_
    refine sw_seq ?_
    refine sw_block ?_
    refine sw_seq ?_
    refine sl_region ?_
    refine sl_indexAddr' rfl rfl rfl rfl u_30 sz_55 (by omega) (idx_map hj) rfl ?_
    first
      | refine sl_load_rpn rfl rfl rfl ag_55 sz_55 (Nat.le_of_ble_eq_true rfl) ?_
      | refine sl_load_blkn rfl rfl rfl ag_55 sz_55 (by repeat constructor) (Nat.le_of_ble_eq_true rfl) ?_
      | refine sl_load_ref rfl rfl rfl ag_55 sz_55 (Nat.le_of_ble_eq_true rfl) ?_
    refine sl_alloc rfl rfl zd_55 (fun b5 => ?_)
    refine sl_stp rfl rfl rfl rfl sz_55 rfl rfl rfl (by repeat constructor) (Nat.le_of_ble_eq_true rfl) ?_
    refine sl_nil ?_
    refine sw_freeze (t := 5) rfl rfl ?_
    refine sa_start [] mixed ?_
    refine sa_take 0 rfl rfl (by kernel_rfl) .nil (pu_mv rfl rfl) ?_
    refine sa_take 1 rfl rfl (by kernel_rfl) .nil (pu_nc rfl rfl rfl) ?_
    first
      | refine sa_take 2 rfl rfl (by kernel_rfl) .nil (pu_fieldAddr_ptr rfl rfl fo_83_0) ?_
      | refine sa_take 2 rfl rfl (by kernel_rfl) .nil (pu_fieldAddr_rp rfl rfl fo_83_0) ?_
      | refine sa_take 2 rfl rfl (by kernel_rfl) .nil (pu_fieldAddr_ref rfl rfl fo_83_0) ?_
    first
      | refine sa_take 3 rfl rfl (by kernel_rfl) .nil (pu_fieldAddr_ptr rfl rfl fo_55_0) ?_
      | refine sa_take 3 rfl rfl (by kernel_rfl) .nil (pu_fieldAddr_rp rfl rfl fo_55_0) ?_
      | refine sa_take 3 rfl rfl (by kernel_rfl) .nil (pu_fieldAddr_ref rfl rfl fo_55_0) ?_
    refine sa_take 4 rfl rfl (by kernel_rfl) .nil (pu_load_rp1 rfl rfl ag_3 rfl) ?_
    first
      | refine sa_take 5 rfl rfl (by kernel_rfl) .nil (pu_fieldAddr_ptr rfl rfl fo_55_1) ?_
      | refine sa_take 5 rfl rfl (by kernel_rfl) .nil (pu_fieldAddr_rp rfl rfl fo_55_1) ?_
      | refine sa_take 5 rfl rfl (by kernel_rfl) .nil (pu_fieldAddr_ref rfl rfl fo_55_1) ?_
    refine sa_take 6 rfl rfl (by kernel_rfl) .nil (pu_load_rp1 rfl rfl ag_3 rfl) ?_
    refine sa_one 7 (by kernel_rfl) rfl ?_
    refine sl_bs1 rfl rfl (.cons rfl (.cons rfl .nil)) u_110 sz_2 zs_2 (by decide) rfl rfl rfl rfl ?_
    refine sl_nil ⟨.nil, ?_⟩
    refine sa_one 8 (by kernel_rfl) rfl ?_
    refine sl_callf rfl rfl cal_53 (int_ok p v m [r.alarms[j].pos, r.alarms[j].kind] σ (by intro n hn; simp at hn; rcases hn with rfl | rfl; exact hao1.1; exact hao1.2) (by simp only [List.length_cons, List.length_nil]; omega)) ?_ ?_ ?_ (fun _ _ h => h.elim)
    · repeat constructor
    · repeat constructor
    rintro _ _ ⟨rfl, v5, rfl⟩
    refine sl_nil ⟨.nil, ?_⟩
    refine sa_done (by kernel_rfl) ?_
    refine sl_region ?_
    first
      | refine sl_inc rfl rfl rfl rfl (by omega) ?_
      | refine sl_add rfl rfl rfl rfl (by constructor <;> omega) ?_
      | refine sl_bin rfl rfl rfl rfl rfl ?_
    refine sl_mv rfl rfl rfl ?_
    refine sl_nil ?_
    have e2 : m ++ [r.alarms[j].pos, r.alarms[j].kind].flatMap encInt = m1 ++ encNum r.alarms.length ++ (r.alarms.take (j + 1)).flatMap encAlarm := by
      rw [flat_snoc hj, hm2]; simp [encAlarm]
    refine ⟨_, by omega, _, _, ?_, ?_, j + 1, v5, _, rfl, rfl, rfl, rfl, (by omega), (e2)⟩
    · exact ⟨rfl, by repeat constructor⟩
    · repeat constructor
  have hj : j = r.alarms.length := by have h9 : ¬ j < r.alarms.length := (by simpa using hj); omega
  subst hj
  rw [List.take_length] at hm2
  have ha1 := flat_allc (f := encAlarm) (c := 20) (ns := r.alarms) (fun a h => encAlarm_len (ha a h))
  have hm2l : m.length ≤ 30000 := by rw [hm2]; simp only [List.length_append]; omega
  refine sw_exit ?_
  refine sw_seq ?_
  refine sa_start [] mixed ?_
  refine sa_take 0 rfl rfl (by kernel_rfl) .nil (pu_mv rfl rfl) ?_
  refine sa_take 1 rfl rfl (by kernel_rfl) .nil (pu_nc rfl rfl rfl) ?_
  first
    | refine sa_take 2 rfl rfl (by kernel_rfl) .nil (pu_fieldAddr_ptr rfl rfl fo_83_0) ?_
    | refine sa_take 2 rfl rfl (by kernel_rfl) .nil (pu_fieldAddr_rp rfl rfl fo_83_0) ?_
    | refine sa_take 2 rfl rfl (by kernel_rfl) .nil (pu_fieldAddr_ref rfl rfl fo_83_0) ?_
  first
    | refine sa_take 3 rfl rfl (by kernel_rfl) .nil (pu_fieldAddr_ptr rfl rfl fo_32_4) ?_
    | refine sa_take 3 rfl rfl (by kernel_rfl) .nil (pu_fieldAddr_rp rfl rfl fo_32_4) ?_
    | refine sa_take 3 rfl rfl (by kernel_rfl) .nil (pu_fieldAddr_ref rfl rfl fo_32_4) ?_
  refine sa_take 4 rfl rfl (by kernel_rfl) .nil (pu_load_rp1 rfl rfl ag_9 rfl) ?_
  refine sa_one 5 (by kernel_rfl) rfl ?_
  refine sl_bs1 rfl rfl (.cons rfl .nil) u_38 sz_9 zs_9 (by decide) rfl rfl rfl rfl ?_
  refine sl_nil ⟨.nil, ?_⟩
  refine sa_one 6 (by kernel_rfl) rfl ?_
  refine sl_callf rfl rfl cal_52 (text_ok p v m [r.text] 1000000 σ (by intro s hs; rw [List.mem_singleton.mp hs]; exact ht) (by simp only [List.length_cons, List.length_nil]; omega)) ?_ ?_ ?_ (fun _ _ h => h.elim)
  · repeat constructor
  · repeat constructor
  rintro _ _ ⟨rfl, v6, rfl⟩
  refine sl_nil ⟨.nil, ?_⟩
  have e4 : m ++ [r.text].flatMap encText = m ++ encText r.text := by simp
  rw [e4]
  have h5 := encText_lenc ht (by decide)
  refine sa_done (by kernel_rfl) ?_
  refine sw_seq ?_
  refine sa_start [] mixed ?_
  refine sa_take 0 rfl rfl (by kernel_rfl) .nil (pu_mv rfl rfl) ?_
  refine sa_take 1 rfl rfl (by kernel_rfl) .nil (pu_nc rfl rfl rfl) ?_
  first
    | refine sa_take 2 rfl rfl (by kernel_rfl) .nil (pu_fieldAddr_ptr rfl rfl fo_83_0) ?_
    | refine sa_take 2 rfl rfl (by kernel_rfl) .nil (pu_fieldAddr_rp rfl rfl fo_83_0) ?_
    | refine sa_take 2 rfl rfl (by kernel_rfl) .nil (pu_fieldAddr_ref rfl rfl fo_83_0) ?_
  first
    | refine sa_take 3 rfl rfl (by kernel_rfl) .nil (pu_fieldAddr_ptr rfl rfl fo_32_5) ?_
    | refine sa_take 3 rfl rfl (by kernel_rfl) .nil (pu_fieldAddr_rp rfl rfl fo_32_5) ?_
    | refine sa_take 3 rfl rfl (by kernel_rfl) .nil (pu_fieldAddr_ref rfl rfl fo_32_5) ?_
  refine sa_take 4 rfl rfl (by kernel_rfl) .nil (pu_load_rp1 rfl rfl ag_3 rfl) ?_
  refine sa_one 5 (by kernel_rfl) rfl ?_
  refine sl_bs1 rfl rfl (.cons rfl .nil) u_110 sz_2 zs_2 (by decide) rfl rfl rfl rfl ?_
  refine sl_nil ⟨.nil, ?_⟩
  refine sa_one 6 (by kernel_rfl) rfl ?_
  refine sl_callf rfl rfl cal_53 (int_ok p v6 (m ++ encText r.text) [r.n] σ (by intro n hn; rw [List.mem_singleton.mp hn]; exact hnn) (by simp only [List.length_append, List.length_cons, List.length_nil]; omega)) ?_ ?_ ?_ (fun _ _ h => h.elim)
  · repeat constructor
  · repeat constructor
  rintro _ _ ⟨rfl, v7, rfl⟩
  refine sl_nil ⟨.nil, ?_⟩
  have e5 : m ++ encText r.text ++ [r.n].flatMap encInt = encRep r := by rw [hm2, hm1]; simp [encRep, encAlarms]
  rw [e5]
  have h6 := encRep_len ⟨hk, he, hp, hnn, ha⟩ (c := 1000000) (by decide) ht hn
  refine sa_done (by kernel_rfl) ?_
  refine sw_seq ?_
  refine sl_region ?_
  refine sl_mv rfl rfl rfl ?_
  refine sl_nc rfl rfl rfl rfl ?_
  first
    | refine sl_fieldAddr_ptr rfl rfl rfl fo_83_0 ?_
    | refine sl_fieldAddr_rp rfl rfl rfl fo_83_0 ?_
    | refine sl_fieldAddr_ref rfl rfl rfl fo_83_0 ?_
  refine sl_callf rfl rfl cal_54 (bytes_ok p v7 (encRep r) (.spare v7 1 :: σ) (by omega)) ?_ ?_ ?_ (fun _ _ h => h.elim)
  · repeat constructor
  · repeat constructor
  rintro _ _ ⟨rfl, rfl⟩
  refine sl_as rfl rfl rfl ?_
  refine sl_nil ?_
  refine sw_ret ⟨rfl, _, _, res_one rfl rfl, ?_, ⟨rfl, rfl⟩⟩
  repeat constructor

/-- The document's bytes of a request. -/
theorem dbytes_ok (r : Req) (σ : List Chunk) (hok : ReqOk r) (hn : r.name.length ≤ 1000000) (ht : r.text.length ≤ 1000000) :
    FSpec Try.prog 10 [.val (reqV r)] σ (fun d σ' => ∃ v, d = .own v ((encReq r).map byteV) ∧ σ' = .spare v 1 :: σ) := by
  refine spec_of_sw Try.func10 rfl ?_
  refine sw_seq ?_
  refine sl_region ?_
  refine sl_bx_imm rfl rfl rfl rfl rfl ?_
  refine sl_as rfl rfl rfl ?_
  refine sl_nil ?_
  refine sw_seq ?_
  refine sl_region ?_
  first
    | refine sl_fieldAddr_ptr rfl rfl rfl fo_24_0 ?_
    | refine sl_fieldAddr_rp rfl rfl rfl fo_24_0 ?_
    | refine sl_fieldAddr_ref rfl rfl rfl fo_24_0 ?_
  first
    | refine sl_load_rp1 rfl rfl rfl ag_3 rfl ?_
    | refine sl_load_blk1 rfl rfl rfl ag_3 (by repeat constructor) rfl ?_
  refine sl_max rfl rfl rfl rfl ?_
  refine sl_conv_int rfl rfl rfl is_3 u_62 ?_
  refine sl_set 7 (.val (u64V r.kind.toNat)) (max_u64 hok.1) ?_
  refine sl_callf rfl rfl cal_37 (spec_own_first (fun v => xnum_ok v [] r.kind.toNat σ (kind_lt hok.1) (by decide))) ?_ ?_ ?_ (fun _ _ h => h.elim)
  · repeat constructor
  · repeat constructor
  rintro _ _ ⟨v1, rfl, rfl⟩
  rw [List.nil_append]
  have h1 := encNum_len (kind_lt hok.1)
  refine sl_as rfl rfl rfl ?_
  refine sl_nil ?_
  refine sw_seq ?_
  refine sa_start [] mixed ?_
  refine sa_take 0 rfl rfl (by kernel_rfl) .nil (pu_mv rfl rfl) ?_
  first
    | refine sa_take 1 rfl rfl (by kernel_rfl) .nil (pu_fieldAddr_ptr rfl rfl fo_24_1) ?_
    | refine sa_take 1 rfl rfl (by kernel_rfl) .nil (pu_fieldAddr_rp rfl rfl fo_24_1) ?_
    | refine sa_take 1 rfl rfl (by kernel_rfl) .nil (pu_fieldAddr_ref rfl rfl fo_24_1) ?_
  refine sa_take 2 rfl rfl (by kernel_rfl) .nil (pu_load_rp1 rfl rfl ag_9 rfl) ?_
  first
    | refine sa_take 4 rfl rfl (by kernel_rfl) .nil (pu_fieldAddr_ptr rfl rfl fo_24_2) ?_
    | refine sa_take 4 rfl rfl (by kernel_rfl) .nil (pu_fieldAddr_rp rfl rfl fo_24_2) ?_
    | refine sa_take 4 rfl rfl (by kernel_rfl) .nil (pu_fieldAddr_ref rfl rfl fo_24_2) ?_
  refine sa_take 5 rfl rfl (by kernel_rfl) .nil (pu_load_rp1 rfl rfl ag_9 rfl) ?_
  first
    | refine sa_take 7 rfl rfl (by kernel_rfl) .nil (pu_fieldAddr_ptr rfl rfl fo_24_3) ?_
    | refine sa_take 7 rfl rfl (by kernel_rfl) .nil (pu_fieldAddr_rp rfl rfl fo_24_3) ?_
    | refine sa_take 7 rfl rfl (by kernel_rfl) .nil (pu_fieldAddr_ref rfl rfl fo_24_3) ?_
  refine sa_take 8 rfl rfl (by kernel_rfl) .nil (pu_load_rp1 rfl rfl ag_3 rfl) ?_
  refine sa_one 3 (by kernel_rfl) rfl ?_
  refine sl_callf rfl rfl cal_39 (xtext_ok v1 (encNum r.kind.toNat) r.name σ hn (by omega)) ?_ ?_ ?_ (fun _ _ h => h.elim)
  · repeat constructor
  · repeat constructor
  rintro _ _ ⟨v2, rfl, rfl⟩
  refine sl_nil ⟨.nil, ?_⟩
  have h2 := encText_lenc hn (by decide)
  refine sa_one 6 (by kernel_rfl) rfl ?_
  refine sl_callf rfl rfl cal_39 (xtext_ok v2 (encNum r.kind.toNat ++ encText r.name) r.text σ ht (by rw [List.length_append]; omega)) ?_ ?_ ?_ (fun _ _ h => h.elim)
  · repeat constructor
  · repeat constructor
  rintro _ _ ⟨v3, rfl, rfl⟩
  refine sl_nil ⟨.nil, ?_⟩
  have h3 := encText_lenc ht (by decide)
  refine sa_one 9 (by kernel_rfl) rfl ?_
  refine sl_callf rfl rfl cal_38 (xint_ok v3 (encNum r.kind.toNat ++ encText r.name ++ encText r.text) r.n σ hok.2 (by simp only [List.length_append]; omega)) ?_ ?_ ?_ (fun _ _ h => h.elim)
  · repeat constructor
  · repeat constructor
  rintro _ _ ⟨v4, rfl, rfl⟩
  refine sl_nil ⟨.nil, ?_⟩
  refine sa_one 10 (by kernel_rfl) rfl ?_
  refine sl_as rfl rfl rfl ?_
  refine sl_nil ⟨.nil, ?_⟩
  refine sa_done (by kernel_rfl) ?_
  refine sw_ret ⟨rfl, _, _, res_one rfl rfl, ?_, ⟨v4, rfl, rfl⟩⟩
  repeat constructor

/-- The document's bytes of a reply. -/
theorem dreply_ok (r : Rep) (σ : List Chunk) (hok : RepOk r) (hn : r.alarms.length ≤ 1000) (ht : r.text.length ≤ 1000000) :
    FSpec Try.prog 12 [.val (repV r)] σ (fun d σ' => ∃ v, d = .own v ((encRep r).map byteV) ∧ σ' = .spare v 1 :: σ) := by
  obtain ⟨hk, he, hp, hnn, ha⟩ := hok
  refine spec_of_sw Try.func12 rfl ?_
  refine sw_seq ?_
  refine sl_region ?_
  refine sl_bx_imm rfl rfl rfl rfl rfl ?_
  refine sl_as rfl rfl rfl ?_
  refine sl_nil ?_
  refine sw_seq ?_
  refine sl_region ?_
  first
    | refine sl_fieldAddr_ptr rfl rfl rfl fo_32_0 ?_
    | refine sl_fieldAddr_rp rfl rfl rfl fo_32_0 ?_
    | refine sl_fieldAddr_ref rfl rfl rfl fo_32_0 ?_
  first
    | refine sl_load_rp1 rfl rfl rfl ag_3 rfl ?_
    | refine sl_load_blk1 rfl rfl rfl ag_3 (by repeat constructor) rfl ?_
  refine sl_max rfl rfl rfl rfl ?_
  refine sl_conv_int rfl rfl rfl is_3 u_62 ?_
  refine sl_set 7 (.val (u64V r.kind.toNat)) (max_u64 hk) ?_
  refine sl_callf rfl rfl cal_37 (spec_own_first (fun v => xnum_ok v [] r.kind.toNat σ (kind_lt hk) (by decide))) ?_ ?_ ?_ (fun _ _ h => h.elim)
  · repeat constructor
  · repeat constructor
  rintro _ _ ⟨v1, rfl, rfl⟩
  rw [List.nil_append]
  have h1 := encNum_len (kind_lt hk)
  refine sl_as rfl rfl rfl ?_
  refine sl_nil ?_
  refine sw_seq ?_
  refine sa_start [] mixed ?_
  refine sa_take 0 rfl rfl (by kernel_rfl) .nil (pu_mv rfl rfl) ?_
  first
    | refine sa_take 1 rfl rfl (by kernel_rfl) .nil (pu_fieldAddr_ptr rfl rfl fo_32_1) ?_
    | refine sa_take 1 rfl rfl (by kernel_rfl) .nil (pu_fieldAddr_rp rfl rfl fo_32_1) ?_
    | refine sa_take 1 rfl rfl (by kernel_rfl) .nil (pu_fieldAddr_ref rfl rfl fo_32_1) ?_
  refine sa_take 2 rfl rfl (by kernel_rfl) .nil (pu_load_rp1 rfl rfl ag_25 rfl) ?_
  first
    | refine sa_take 4 rfl rfl (by kernel_rfl) .nil (pu_fieldAddr_ptr rfl rfl fo_32_2) ?_
    | refine sa_take 4 rfl rfl (by kernel_rfl) .nil (pu_fieldAddr_rp rfl rfl fo_32_2) ?_
    | refine sa_take 4 rfl rfl (by kernel_rfl) .nil (pu_fieldAddr_ref rfl rfl fo_32_2) ?_
  refine sa_take 5 rfl rfl (by kernel_rfl) .nil (pu_load_rp1 rfl rfl ag_3 rfl) ?_
  refine sa_one 3 (by kernel_rfl) rfl ?_
  refine sl_callf rfl rfl cal_38 (xint_ok v1 (encNum r.kind.toNat) r.err σ he (by omega)) ?_ ?_ ?_ (fun _ _ h => h.elim)
  · repeat constructor
  · repeat constructor
  rintro _ _ ⟨v2, rfl, rfl⟩
  refine sl_nil ⟨.nil, ?_⟩
  have h2 := encInt_len he
  refine sa_one 6 (by kernel_rfl) rfl ?_
  refine sl_callf rfl rfl cal_38 (xint_ok v2 (encNum r.kind.toNat ++ encInt r.err) r.pos σ hp (by rw [List.length_append]; omega)) ?_ ?_ ?_ (fun _ _ h => h.elim)
  · repeat constructor
  · repeat constructor
  rintro _ _ ⟨v3, rfl, rfl⟩
  refine sl_nil ⟨.nil, ?_⟩
  have h3 := encInt_len hp
  refine sa_one 7 (by kernel_rfl) rfl ?_
  refine sl_as rfl rfl rfl ?_
  refine sl_nil ⟨.nil, ?_⟩
  refine sa_done (by kernel_rfl) ?_
  refine sw_seq ?_
  refine sa_start [] mixed ?_
  refine sa_take 0 rfl rfl (by kernel_rfl) .nil (pu_mv rfl rfl) ?_
  first
    | refine sa_take 1 rfl rfl (by kernel_rfl) .nil (pu_fieldAddr_ptr rfl rfl fo_32_3) ?_
    | refine sa_take 1 rfl rfl (by kernel_rfl) .nil (pu_fieldAddr_rp rfl rfl fo_32_3) ?_
    | refine sa_take 1 rfl rfl (by kernel_rfl) .nil (pu_fieldAddr_ref rfl rfl fo_32_3) ?_
  refine sa_take 2 rfl rfl (by kernel_rfl) .nil (pu_load_rp1 rfl rfl ag_30 rfl) ?_
  first
    | refine sa_take 4 rfl rfl (by kernel_rfl) .nil (pu_fieldAddr_ptr rfl rfl fo_32_4) ?_
    | refine sa_take 4 rfl rfl (by kernel_rfl) .nil (pu_fieldAddr_rp rfl rfl fo_32_4) ?_
    | refine sa_take 4 rfl rfl (by kernel_rfl) .nil (pu_fieldAddr_ref rfl rfl fo_32_4) ?_
  refine sa_take 5 rfl rfl (by kernel_rfl) .nil (pu_load_rp1 rfl rfl ag_9 rfl) ?_
  first
    | refine sa_take 7 rfl rfl (by kernel_rfl) .nil (pu_fieldAddr_ptr rfl rfl fo_32_5) ?_
    | refine sa_take 7 rfl rfl (by kernel_rfl) .nil (pu_fieldAddr_rp rfl rfl fo_32_5) ?_
    | refine sa_take 7 rfl rfl (by kernel_rfl) .nil (pu_fieldAddr_ref rfl rfl fo_32_5) ?_
  refine sa_take 8 rfl rfl (by kernel_rfl) .nil (pu_load_rp1 rfl rfl ag_3 rfl) ?_
  refine sa_one 3 (by kernel_rfl) rfl ?_
  refine sl_callf rfl rfl cal_41 (xalarms_ok v3 (encNum r.kind.toNat ++ encInt r.err ++ encInt r.pos) r.alarms σ ha (by omega) (by simp only [List.length_append]; omega)) ?_ ?_ ?_ (fun _ _ h => h.elim)
  · repeat constructor
  · repeat constructor
  rintro _ _ ⟨v4, rfl, rfl⟩
  refine sl_nil ⟨.nil, ?_⟩
  have h4 := encAlarms_len ha (by omega)
  refine sa_one 6 (by kernel_rfl) rfl ?_
  refine sl_callf rfl rfl cal_39 (xtext_ok v4 (encNum r.kind.toNat ++ encInt r.err ++ encInt r.pos ++ encAlarms r.alarms) r.text σ ht (by simp only [List.length_append]; omega)) ?_ ?_ ?_ (fun _ _ h => h.elim)
  · repeat constructor
  · repeat constructor
  rintro _ _ ⟨v5, rfl, rfl⟩
  refine sl_nil ⟨.nil, ?_⟩
  have h5 := encText_lenc ht (by decide)
  refine sa_one 9 (by kernel_rfl) rfl ?_
  refine sl_callf rfl rfl cal_38 (xint_ok v5 (encNum r.kind.toNat ++ encInt r.err ++ encInt r.pos ++ encAlarms r.alarms ++ encText r.text) r.n σ hnn (by simp only [List.length_append]; omega)) ?_ ?_ ?_ (fun _ _ h => h.elim)
  · repeat constructor
  · repeat constructor
  rintro _ _ ⟨v6, rfl, rfl⟩
  refine sl_nil ⟨.nil, ?_⟩
  refine sa_one 10 (by kernel_rfl) rfl ?_
  refine sl_as rfl rfl rfl ?_
  refine sl_nil ⟨.nil, ?_⟩
  refine sa_done (by kernel_rfl) ?_
  refine sw_ret ⟨rfl, _, _, res_one rfl rfl, ?_, ⟨v6, rfl, rfl⟩⟩
  repeat constructor

end Go.Proofs.Ytipacoopapjdpaa

/- Walks: printed by a program of this session out of its script ReqC. -/
namespace Go.Proofs.Ytipacoopapjdpaa
set_option linter.unusedVariables false
set_option linter.unusedSimpArgs false
set_option maxRecDepth 4000
set_option maxHeartbeats 4000000
open Go Go.RowKit SL


abbrev zeroQ : List D := [.val (.int .i64 0), .val (.str []), .val (.str []), .val (.int .i64 0)]
abbrev zeroY : List D := [.val (.int .i64 0), .val (.int .i64 0), .val (.int .i64 0), .fix [], .val (.str []), .val (.int .i64 0)]


/-- Open reads a request. -/
theorem qopen_ok (b : List UInt8) (σ : List Chunk) (hb : b.length ≤ 1000000) :
    FSpec Try.prog 9 [.val (.list (b.map byteV))] σ (fun d σ' => d = .tup [.val (reqV ((openReq b).getD noReq)), .val (.int .i64 (errOf (openReq b)))] ∧ σ' = σ) := by
  refine spec_of_sw Try.func9 rfl ?_
  refine sw_seq ?_
  refine sl_region ?_
  refine sl_alloc rfl rfl zd_24 (fun b2 => ?_)
  refine sl_as rfl rfl rfl ?_
  refine sl_nil ?_
  refine sw_seq ?_
  refine sw_seq ?_
  refine sl_region ?_
  refine sl_mv rfl rfl rfl ?_
  first
    | refine sl_len rfl rfl rfl ⟨_, u_28⟩ ?_
    | refine sl_len_sl rfl rfl rfl ⟨_, u_28⟩ ?_
    | refine sl_len_w _ rfl rfl rfl ⟨_, u_28⟩ ?_
  refine sl_bin rfl rfl rfl rfl rfl ?_
  refine sl_nil ?_
  refine sw_cond rfl (fun hg => ?_) (fun hg => ?_)
  · have hg1 : b.length > 8192 := by have := of_decide_eq_true hg; rw [List.length_map] at this; omega
    refine sw_seq ?_
    refine sl_region ?_
    refine sl_bd rfl rfl .nil bi_24 zd_24 rfl ?_
    refine sl_stp rfl rfl rfl rfl sz_24 rfl rfl rfl (by repeat constructor) (Nat.le_of_ble_eq_true rfl) ?_
    refine sl_as rfl rfl rfl ?_
    refine sl_nil ?_
    refine sw_ret ⟨rfl, _, _, ResD.weaks (ds' := [.val (reqV noReq), .val (.int .i64 80)]) (res_mix (rs := [.cell 2 24, .tmp 3]) rfl (by decide) (.celln rfl ag_24 sz_24 (by repeat constructor) (Nat.le_of_ble_eq_true rfl) (.tmp rfl .nil))) (by repeat constructor), ?_, by rw [openReq_long hg1]; exact ⟨rfl, rfl⟩⟩
    repeat constructor
  have hg1 : ¬ b.length > 8192 := by have := of_decide_eq_false hg; rw [List.length_map] at this; omega
  refine sw_skip ?_
  refine sw_seq ?_
  refine sl_region ?_
  refine sl_mv rfl rfl rfl ?_
  refine sl_callf rfl rfl cal_32 (newReader_ok b (.blk b2 zeroQ :: σ) (by omega)) ?_ ?_ ?_ (fun _ _ h => h.elim)
  · repeat constructor
  · repeat constructor
  rintro _ _ ⟨q, rfl, rfl⟩
  refine sl_bd rfl rfl (.cons rfl .nil) bi_60 zd_60 rfl ?_
  refine sl_bx rfl rfl rfl rfl (fun b13 => ?_)
  refine sl_as rfl rfl rfl ?_
  refine sl_nil ?_
  refine sw_seq ?_
  refine sw_cutx (fun sX δX σX => ∃ (k : Nat) (wr1 : Bool) (st1 : Option (List UInt8)) (c3 : Chunk) (b5 : Nat), sX = ⟨44, (.cons 2 (.ptr b2 0) (.cons 4 (.ptr b13 0) (.cons 5 (.ptr b5 0) .nil)))⟩ ∧ δX = [] ∧ σX = .blk b13 [.ptr q 0, .val (.bool wr1)] :: c3 :: .blk b5 [.val (.int .i64 (k : Int)), .val (strV (rdOf decT [] st1).1), .val (strV (rdOf decT [] (rdOf decT [] st1).2).1), .val (.int .i64 0)] :: .blk b2 zeroQ :: σ ∧ (Out (decK 1 7) (eff false (some b)) k (eff wr1 st1)) ∧ (Rdr q (rdOf decT [] (rdOf decT [] st1).2).2 c3)) ?_ ?_
  · refine sa_start [(b13, 0, .pointer (some ⟨q, 0, none⟩))] mixed ?_
    refine sa_take 0 rfl rfl (by kernel_rfl) (by repeat constructor) (pu_mv rfl rfl) ?_
    refine sa_take 2 rfl rfl (by kernel_rfl) (by repeat constructor) (pu_mv rfl rfl) ?_
    refine sa_take 3 rfl rfl (by kernel_rfl) (by repeat constructor) (pu_nc rfl rfl rfl) ?_
    first
      | refine sa_take 4 rfl rfl (by kernel_rfl) (by repeat constructor) (pu_fieldAddr_ptr rfl rfl fo_60_0) ?_
      | refine sa_take 4 rfl rfl (by kernel_rfl) (by repeat constructor) (pu_fieldAddr_rp rfl rfl fo_60_0) ?_
      | refine sa_take 4 rfl rfl (by kernel_rfl) (by repeat constructor) (pu_fieldAddr_ref rfl rfl fo_60_0) ?_
    first
      | refine sa_take 5 rfl rfl (by kernel_rfl) (by repeat constructor) (pu_load_rp1 rfl rfl ag_57 rfl) ?_
      | refine sa_take 5 rfl rfl (by kernel_rfl) (by repeat constructor) (pu_load_blk1 rfl rfl ag_57 (by repeat constructor) (by first | exact fun _ _ _ => .val _ _ (.int _ _) | exact fun _ _ _ => .val _ _ (.bool _) | exact fun _ _ _ => .ptr _ _ | assumption)) ?_
    refine sa_take 7 rfl rfl (by kernel_rfl) (by repeat constructor) (pu_mv rfl rfl) ?_
    refine sa_take 8 rfl rfl (by kernel_rfl) (by repeat constructor) (pu_nc rfl rfl rfl) ?_
    first
      | refine sa_take 9 rfl rfl (by kernel_rfl) (by repeat constructor) (pu_fieldAddr_ptr rfl rfl fo_60_0) ?_
      | refine sa_take 9 rfl rfl (by kernel_rfl) (by repeat constructor) (pu_fieldAddr_rp rfl rfl fo_60_0) ?_
      | refine sa_take 9 rfl rfl (by kernel_rfl) (by repeat constructor) (pu_fieldAddr_ref rfl rfl fo_60_0) ?_
    first
      | refine sa_take 10 rfl rfl (by kernel_rfl) (by repeat constructor) (pu_load_rp1 rfl rfl ag_57 rfl) ?_
      | refine sa_take 10 rfl rfl (by kernel_rfl) (by repeat constructor) (pu_load_blk1 rfl rfl ag_57 (by repeat constructor) (by first | exact fun _ _ _ => .val _ _ (.int _ _) | exact fun _ _ _ => .val _ _ (.bool _) | exact fun _ _ _ => .ptr _ _ | assumption)) ?_
    refine sa_two 1 13 (by kernel_rfl) rfl rfl ?_ ?_
    · refine sl_callf rfl rfl cal_33 (rkind_ok b13 q 1 7 false (some b) (rd q b false) (.blk b2 zeroQ :: σ) ⟨rfl, by omega⟩ (by decide)) ?_ ?_ ?_ (fun _ _ h => h.elim)
      · repeat constructor
      · repeat constructor
      rintro _ _ ⟨k, wr1, st1, c1, rfl, o1, h1, rfl⟩
      refine sl_nil ⟨(by repeat constructor), ?_⟩
      refine sa_two 6 13 (by kernel_rfl) rfl rfl ?_ ?_
      · refine sl_callf rfl rfl cal_34 (pText_ok q st1 c1 (.blk b13 [.ptr q 0, .val (.bool wr1)] :: .blk b2 zeroQ :: σ) h1) ?_ ?_ ?_ (fun _ _ h => h.elim)
        · repeat constructor
        · repeat constructor
        rintro _ _ ⟨rfl, c2, h2, rfl⟩
        refine sl_nil ⟨(by repeat constructor), ?_⟩
        refine sa_two 11 13 (by kernel_rfl) rfl rfl ?_ ?_
        · refine sl_callf rfl rfl cal_34 (pText_ok q (rdOf decT [] st1).2 c2 (.blk b13 [.ptr q 0, .val (.bool wr1)] :: .blk b2 zeroQ :: σ) h2) ?_ ?_ ?_ (fun _ _ h => h.elim)
          · repeat constructor
          · repeat constructor
          rintro _ _ ⟨rfl, c3, h3, rfl⟩
          refine sl_nil ⟨(by repeat constructor), ?_⟩
          refine sa_take 12 rfl rfl (by kernel_rfl) (by repeat constructor) (pu_bd rfl (.cons rfl (.cons rfl (.cons rfl .nil))) bi_24 zd_24 rfl) ?_
          refine sa_one 13 (by kernel_rfl) rfl ?_
          refine sl_alloc rfl rfl zd_24 (fun b5 => ?_)
          refine sl_nil ⟨(by repeat constructor), ?_⟩
          refine sa_one 14 (by kernel_rfl) rfl ?_
          refine sl_stp rfl rfl rfl rfl sz_24 rfl rfl rfl (by repeat constructor) (Nat.le_of_ble_eq_true rfl) ?_
          refine sl_nil ⟨(by repeat constructor), ?_⟩
          refine sa_done (by kernel_rfl) ?_
          refine ⟨_, _, ?_, ?_, k, wr1, st1, c3, b5, rfl, rfl, rfl, (o1), (h3)⟩
          · exact ⟨rfl, by repeat constructor⟩
          · repeat constructor
        refine sl_alloc rfl rfl zd_24 (fun b5 => ?_)
        refine sl_nil ⟨(by repeat constructor), ?_⟩
        refine sa_one 11 (by kernel_rfl) rfl ?_
        refine sl_callf rfl rfl cal_34 (pText_ok q (rdOf decT [] st1).2 c2 (.blk b13 [.ptr q 0, .val (.bool wr1)] :: .blk b5 zeroQ :: .blk b2 zeroQ :: σ) h2) ?_ ?_ ?_ (fun _ _ h => h.elim)
        · repeat constructor
        · repeat constructor
        rintro _ _ ⟨rfl, c3, h3, rfl⟩
        refine sl_nil ⟨(by repeat constructor), ?_⟩
        refine sa_take 12 rfl rfl (by kernel_rfl) (by repeat constructor) (pu_bd rfl (.cons rfl (.cons rfl (.cons rfl .nil))) bi_24 zd_24 rfl) ?_
        refine sa_one 14 (by kernel_rfl) rfl ?_
        refine sl_stp rfl rfl rfl rfl sz_24 rfl rfl rfl (by repeat constructor) (Nat.le_of_ble_eq_true rfl) ?_
        refine sl_nil ⟨(by repeat constructor), ?_⟩
        refine sa_done (by kernel_rfl) ?_
        refine ⟨_, _, ?_, ?_, k, wr1, st1, c3, b5, rfl, rfl, rfl, (o1), (h3)⟩
        · exact ⟨rfl, by repeat constructor⟩
        · repeat constructor
      refine sl_alloc rfl rfl zd_24 (fun b5 => ?_)
      refine sl_nil ⟨(by repeat constructor), ?_⟩
      refine sa_one 6 (by kernel_rfl) rfl ?_
      refine sl_callf rfl rfl cal_34 (pText_ok q st1 c1 (.blk b13 [.ptr q 0, .val (.bool wr1)] :: .blk b5 zeroQ :: .blk b2 zeroQ :: σ) h1) ?_ ?_ ?_ (fun _ _ h => h.elim)
      · repeat constructor
      · repeat constructor
      rintro _ _ ⟨rfl, c2, h2, rfl⟩
      refine sl_nil ⟨(by repeat constructor), ?_⟩
      refine sa_one 11 (by kernel_rfl) rfl ?_
      refine sl_callf rfl rfl cal_34 (pText_ok q (rdOf decT [] st1).2 c2 (.blk b13 [.ptr q 0, .val (.bool wr1)] :: .blk b5 zeroQ :: .blk b2 zeroQ :: σ) h2) ?_ ?_ ?_ (fun _ _ h => h.elim)
      · repeat constructor
      · repeat constructor
      rintro _ _ ⟨rfl, c3, h3, rfl⟩
      refine sl_nil ⟨(by repeat constructor), ?_⟩
      refine sa_take 12 rfl rfl (by kernel_rfl) (by repeat constructor) (pu_bd rfl (.cons rfl (.cons rfl (.cons rfl .nil))) bi_24 zd_24 rfl) ?_
      refine sa_one 14 (by kernel_rfl) rfl ?_
      refine sl_stp rfl rfl rfl rfl sz_24 rfl rfl rfl (by repeat constructor) (Nat.le_of_ble_eq_true rfl) ?_
      refine sl_nil ⟨(by repeat constructor), ?_⟩
      refine sa_done (by kernel_rfl) ?_
      refine ⟨_, _, ?_, ?_, k, wr1, st1, c3, b5, rfl, rfl, rfl, (o1), (h3)⟩
      · exact ⟨rfl, by repeat constructor⟩
      · repeat constructor
    refine sl_alloc rfl rfl zd_24 (fun b5 => ?_)
    refine sl_nil ⟨(by repeat constructor), ?_⟩
    refine sa_one 1 (by kernel_rfl) rfl ?_
    refine sl_callf rfl rfl cal_33 (rkind_ok b13 q 1 7 false (some b) (rd q b false) (.blk b5 zeroQ :: .blk b2 zeroQ :: σ) ⟨rfl, by omega⟩ (by decide)) ?_ ?_ ?_ (fun _ _ h => h.elim)
    · repeat constructor
    · repeat constructor
    rintro _ _ ⟨k, wr1, st1, c1, rfl, o1, h1, rfl⟩
    refine sl_nil ⟨(by repeat constructor), ?_⟩
    refine sa_one 6 (by kernel_rfl) rfl ?_
    refine sl_callf rfl rfl cal_34 (pText_ok q st1 c1 (.blk b13 [.ptr q 0, .val (.bool wr1)] :: .blk b5 zeroQ :: .blk b2 zeroQ :: σ) h1) ?_ ?_ ?_ (fun _ _ h => h.elim)
    · repeat constructor
    · repeat constructor
    rintro _ _ ⟨rfl, c2, h2, rfl⟩
    refine sl_nil ⟨(by repeat constructor), ?_⟩
    refine sa_one 11 (by kernel_rfl) rfl ?_
    refine sl_callf rfl rfl cal_34 (pText_ok q (rdOf decT [] st1).2 c2 (.blk b13 [.ptr q 0, .val (.bool wr1)] :: .blk b5 zeroQ :: .blk b2 zeroQ :: σ) h2) ?_ ?_ ?_ (fun _ _ h => h.elim)
    · repeat constructor
    · repeat constructor
    rintro _ _ ⟨rfl, c3, h3, rfl⟩
    refine sl_nil ⟨(by repeat constructor), ?_⟩
    refine sa_take 12 rfl rfl (by kernel_rfl) (by repeat constructor) (pu_bd rfl (.cons rfl (.cons rfl (.cons rfl .nil))) bi_24 zd_24 rfl) ?_
    refine sa_one 14 (by kernel_rfl) rfl ?_
    refine sl_stp rfl rfl rfl rfl sz_24 rfl rfl rfl (by repeat constructor) (Nat.le_of_ble_eq_true rfl) ?_
    refine sl_nil ⟨(by repeat constructor), ?_⟩
    refine sa_done (by kernel_rfl) ?_
    refine ⟨_, _, ?_, ?_, k, wr1, st1, c3, b5, rfl, rfl, rfl, (o1), (h3)⟩
    · exact ⟨rfl, by repeat constructor⟩
    · repeat constructor
  rintro sX δX σX ⟨k, wr1, st1, c3, b5, rfl, rfl, rfl, o1, h3⟩
  have o2 := out_pub (dec := decT) (z := []) wr1 st1
  have o3 := out_pub (dec := decT) (z := []) wr1 (rdOf decT [] st1).2
  obtain ⟨x2, hx2⟩ : ∃ b, b = (rdOf decT [] st1).1 := ⟨_, rfl⟩
  obtain ⟨st2, hst2⟩ : ∃ b, b = (rdOf decT [] st1).2 := ⟨_, rfl⟩
  rw [← hx2, ← hst2] at o2
  rw [← hst2] at o3 h3
  rw [← hx2, ← hst2]
  obtain ⟨x3, hx3⟩ : ∃ b, b = (rdOf decT [] st2).1 := ⟨_, rfl⟩
  obtain ⟨st3, hst3⟩ : ∃ b, b = (rdOf decT [] st2).2 := ⟨_, rfl⟩
  rw [← hx3, ← hst3] at o3
  rw [← hst3] at h3
  rw [← hx3]
  refine sw_seq ?_
  refine sl_region ?_
  refine sl_mv rfl rfl rfl ?_
  refine sl_callf rfl rfl cal_35 (qsmall_ok b13 q wr1 st3 c3 (.blk b5 [.val (.int .i64 (k : Int)), .val (strV x2), .val (strV x3), .val (.int .i64 0)] :: .blk b2 zeroQ :: σ) h3) ?_ ?_ ?_ (fun _ _ h => h.elim)
  · repeat constructor
  · repeat constructor
  rintro _ _ ⟨n, wr4, st4, c4, rfl, o4, h4, rfl⟩
  have oo := out_reqK o1 o2 o3 o4
  first
    | refine sl_fieldAddr_ptr rfl rfl rfl fo_24_3 ?_
    | refine sl_fieldAddr_rp rfl rfl rfl fo_24_3 ?_
    | refine sl_fieldAddr_ref rfl rfl rfl fo_24_3 ?_
  refine sl_stp rfl rfl rfl rfl sz_3 rfl rfl rfl (by repeat constructor) (Nat.le_of_ble_eq_true rfl) ?_
  refine sl_nil ?_
  refine sw_seq ?_
  refine sw_seq ?_
  refine sl_region ?_
  refine sl_mv rfl rfl rfl ?_
  refine sl_nc rfl rfl rfl rfl ?_
  first
    | refine sl_fieldAddr_ptr rfl rfl rfl fo_60_1 ?_
    | refine sl_fieldAddr_rp rfl rfl rfl fo_60_1 ?_
    | refine sl_fieldAddr_ref rfl rfl rfl fo_60_1 ?_
  first
    | refine sl_load_rp1 rfl rfl rfl ag_4 rfl ?_
    | refine sl_load_blk1 rfl rfl rfl ag_4 (by repeat constructor) rfl ?_
  refine sl_mv rfl rfl rfl ?_
  refine sl_case_at 34 rfl (fun hw => ?_) (fun hw => ?_)
  · have hw1 : wr4 = true := hw
    subst hw1
    refine sl_guard_n rfl rfl rfl hw ?_
    refine sl_guard_n rfl rfl rfl hw ?_
    refine sl_guard_n rfl rfl rfl hw ?_
    refine sl_guard_n rfl rfl rfl hw ?_
    refine sl_guard_n rfl rfl rfl hw ?_
    refine sl_guard_n rfl rfl rfl hw ?_
    refine sl_pk_t rfl rfl rfl hw rfl ?_
    refine sl_nil ?_
    refine sw_true rfl (rfl) ?_
    refine sw_seq ?_
    refine sl_region ?_
    refine sl_bd rfl rfl .nil bi_24 zd_24 rfl ?_
    refine sl_stp rfl rfl rfl rfl sz_24 rfl rfl rfl (by repeat constructor) (Nat.le_of_ble_eq_true rfl) ?_
    refine sl_as rfl rfl rfl ?_
    refine sl_nil ?_
    refine sw_ret ⟨rfl, _, _, ResD.weaks (ds' := [.val (reqV noReq), .val (.int .i64 80)]) (res_mix (rs := [.cell 2 24, .tmp 3]) rfl (by decide) (.celln rfl ag_24 sz_24 (by repeat constructor) (Nat.le_of_ble_eq_true rfl) (.tmp rfl .nil))) (by repeat constructor), ?_, by rw [openReqK hg1, whole_bad (ok := fun _ => True) oo (.inl eff_wrong)]; exact ⟨rfl, rfl⟩⟩
    repeat constructor
  have hw1 : wr4 = false := hw
  subst hw1
  refine sl_guard_y rfl rfl rfl hw ?_
  refine sl_mv rfl rfl rfl ?_
  refine sl_guard_y rfl rfl rfl hw ?_
  refine sl_nc rfl rfl rfl rfl ?_
  refine sl_guard_y rfl rfl rfl hw ?_
  first
    | refine sl_fieldAddr_ptr rfl rfl rfl fo_60_0 ?_
    | refine sl_fieldAddr_rp rfl rfl rfl fo_60_0 ?_
    | refine sl_fieldAddr_ref rfl rfl rfl fo_60_0 ?_
  refine sl_guard_y rfl rfl rfl hw ?_
  first
    | refine sl_load_rp1 rfl rfl rfl ag_57 rfl ?_
    | refine sl_load_blk1 rfl rfl rfl ag_57 (by repeat constructor) rfl ?_
  refine sl_guard_y rfl rfl rfl hw ?_
  refine sl_callf rfl rfl cal_36 (done_ok q st4 c4 (.blk b13 [.ptr q 0, .val (.bool false)] :: .blk b5 [.val (.int .i64 (k : Int)), .val (strV x2), .val (strV x3), .val (.int .i64 n)] :: .blk b2 zeroQ :: σ) h4) ?_ ?_ ?_ (fun _ _ h => h.elim)
  · repeat constructor
  · repeat constructor
  rintro _ _ ⟨rfl, rfl⟩
  refine sl_guard_y rfl rfl rfl hw ?_
  refine sl_bin rfl rfl rfl rfl rfl ?_
  refine sl_pk_f rfl rfl rfl hw rfl ?_
  refine sl_nil ?_
  refine sw_cond rfl (fun he => ?_) (fun he => ?_)
  · refine sw_seq ?_
    refine sl_region ?_
    refine sl_bd rfl rfl .nil bi_24 zd_24 rfl ?_
    refine sl_stp rfl rfl rfl rfl sz_24 rfl rfl rfl (by repeat constructor) (Nat.le_of_ble_eq_true rfl) ?_
    refine sl_as rfl rfl rfl ?_
    refine sl_nil ?_
    refine sw_ret ⟨rfl, _, _, ResD.weaks (ds' := [.val (reqV noReq), .val (.int .i64 80)]) (res_mix (rs := [.cell 2 24, .tmp 3]) rfl (by decide) (.celln rfl ag_24 sz_24 (by repeat constructor) (Nat.le_of_ble_eq_true rfl) (.tmp rfl .nil))) (by repeat constructor), ?_, by rw [openReqK hg1, whole_bad (ok := fun _ => True) oo (.inl (doneV_ne he))]; exact ⟨rfl, rfl⟩⟩
    repeat constructor
  have he2 := doneV_eq he
  subst he2
  refine sw_skip ?_
  refine sw_seq ?_
  refine sl_region ?_
  first
    | refine sl_load_rpn rfl rfl rfl ag_24 sz_24 (Nat.le_of_ble_eq_true rfl) ?_
    | refine sl_load_blkn rfl rfl rfl ag_24 sz_24 (by repeat constructor) (Nat.le_of_ble_eq_true rfl) ?_
    | refine sl_load_ref rfl rfl rfl ag_24 sz_24 (Nat.le_of_ble_eq_true rfl) ?_
  refine sl_stp rfl rfl rfl rfl sz_24 rfl rfl rfl (by repeat constructor) (Nat.le_of_ble_eq_true rfl) ?_
  refine sl_as rfl rfl rfl ?_
  refine sl_nil ?_
  refine sw_ret ⟨rfl, _, _, ResD.weaks (ds' := [.val (reqV ⟨k, x2, x3, n⟩), .val (.int .i64 0)]) (res_mix (rs := [.cell 2 24, .tmp 3]) rfl (by decide) (.celln rfl ag_24 sz_24 (by repeat constructor) (Nat.le_of_ble_eq_true rfl) (.tmp rfl .nil))) (by repeat constructor), ?_, by rw [openReqK hg1, whole_good (ok := fun _ => True) oo trivial]; exact ⟨rfl, rfl⟩⟩
  repeat constructor

end Go.Proofs.Ytipacoopapjdpaa

/- Walks: printed by a program of this session out of its script ReqD. -/
namespace Go.Proofs.Ytipacoopapjdpaa
set_option linter.unusedVariables false
set_option linter.unusedSimpArgs false
set_option maxRecDepth 4000
set_option maxHeartbeats 4000000
open Go Go.RowKit SL


end Go.Proofs.Ytipacoopapjdpaa

/- Walks: printed by a program of this session out of its script ReqE. -/
namespace Go.Proofs.Ytipacoopapjdpaa
set_option linter.unusedVariables false
set_option linter.unusedSimpArgs false
set_option maxRecDepth 4000
set_option maxHeartbeats 4000000
open Go Go.RowKit SL



/-- OpenReply reads a reply. -/
theorem qopenrep_ok (b : List UInt8) (σ : List Chunk) (hb : b.length ≤ 1000000) :
    FSpec Try.prog 11 [.val (.list (b.map byteV))] σ (fun d σ' => d = .tup [.val (repV ((openRep b).getD noRep)), .val (.int .i64 (errOf (openRep b)))] ∧ σ' = σ) := by
  refine spec_of_sw Try.func11 rfl ?_
  refine sw_seq ?_
  refine sl_region ?_
  refine sl_alloc rfl rfl zd_32 (fun b2 => ?_)
  refine sl_as rfl rfl rfl ?_
  refine sl_nil ?_
  refine sw_seq ?_
  refine sl_region ?_
  refine sl_mv rfl rfl rfl ?_
  refine sl_callf rfl rfl cal_32 (newReader_ok b (.blk b2 zeroY :: σ) (by omega)) ?_ ?_ ?_ (fun _ _ h => h.elim)
  · repeat constructor
  · repeat constructor
  rintro _ _ ⟨q, rfl, rfl⟩
  refine sl_bd rfl rfl (.cons rfl .nil) bi_60 zd_60 rfl ?_
  refine sl_bx rfl rfl rfl rfl (fun b12 => ?_)
  refine sl_as rfl rfl rfl ?_
  refine sl_nil ?_
  refine sw_seq ?_
  refine sl_region ?_
  refine sl_mv rfl rfl rfl ?_
  refine sl_callf rfl rfl cal_33 (rkind_ok b12 q 0 5 false (some b) (rd q b false) (.blk b2 zeroY :: σ) ⟨rfl, by omega⟩ (by decide)) ?_ ?_ ?_ (fun _ _ h => h.elim)
  · repeat constructor
  · repeat constructor
  rintro _ _ ⟨k, wr1, st1, c1, rfl, o1, h1, rfl⟩
  refine sl_bd rfl rfl (.cons rfl .nil) bi_32 zd_32 rfl ?_
  refine sl_alloc rfl rfl zd_32 (fun b5 => ?_)
  refine sl_stp rfl rfl rfl rfl sz_32 rfl rfl rfl (by repeat constructor) (Nat.le_of_ble_eq_true rfl) ?_
  refine sl_nil ?_
  refine sw_seq ?_
  refine sl_region ?_
  refine sl_mv rfl rfl rfl ?_
  refine sl_callf rfl rfl cal_35 (qsmall_ok b12 q wr1 st1 c1 (.blk b5 [.val (.int .i64 (k : Int)), .val (.int .i64 0), .val (.int .i64 0), .fix [], .val (.str []), .val (.int .i64 0)] :: .blk b2 zeroY :: σ) h1) ?_ ?_ ?_ (fun _ _ h => h.elim)
  · repeat constructor
  · repeat constructor
  rintro _ _ ⟨x2, wr2, st2, c2, rfl, o2, h2, rfl⟩
  refine sl_mv rfl rfl rfl ?_
  refine sl_callf rfl rfl cal_35 (qsmall_ok b12 q wr2 st2 c2 (.blk b5 [.val (.int .i64 (k : Int)), .val (.int .i64 0), .val (.int .i64 0), .fix [], .val (.str []), .val (.int .i64 0)] :: .blk b2 zeroY :: σ) h2) ?_ ?_ ?_ (fun _ _ h => h.elim)
  · repeat constructor
  · repeat constructor
  rintro _ _ ⟨x3, wr3, st3, c3, rfl, o3, h3, rfl⟩
  first
    | refine sl_fieldAddr_ptr rfl rfl rfl fo_32_1 ?_
    | refine sl_fieldAddr_rp rfl rfl rfl fo_32_1 ?_
    | refine sl_fieldAddr_ref rfl rfl rfl fo_32_1 ?_
  refine sl_stp rfl rfl rfl rfl sz_25 rfl rfl rfl (by repeat constructor) (Nat.le_of_ble_eq_true rfl) ?_
  first
    | refine sl_fieldAddr_ptr rfl rfl rfl fo_32_2 ?_
    | refine sl_fieldAddr_rp rfl rfl rfl fo_32_2 ?_
    | refine sl_fieldAddr_ref rfl rfl rfl fo_32_2 ?_
  refine sl_stp rfl rfl rfl rfl sz_3 rfl rfl rfl (by repeat constructor) (Nat.le_of_ble_eq_true rfl) ?_
  refine sl_nil ?_
  refine sw_seq ?_
  refine sl_region ?_
  refine sl_mv rfl rfl rfl ?_
  refine sl_nc rfl rfl rfl rfl ?_
  first
    | refine sl_fieldAddr_ptr rfl rfl rfl fo_60_0 ?_
    | refine sl_fieldAddr_rp rfl rfl rfl fo_60_0 ?_
    | refine sl_fieldAddr_ref rfl rfl rfl fo_60_0 ?_
  first
    | refine sl_load_rp1 rfl rfl rfl ag_57 rfl ?_
    | refine sl_load_blk1 rfl rfl rfl ag_57 (by repeat constructor) rfl ?_
  refine sl_callf rfl rfl cal_40 (pNum_ok q st3 c3 (.blk b12 [.ptr q 0, .val (.bool wr3)] :: .blk b5 [.val (.int .i64 (k : Int)), .val (.int .i64 x2), .val (.int .i64 x3), .fix [], .val (.str []), .val (.int .i64 0)] :: .blk b2 zeroY :: σ) h3) ?_ ?_ ?_ (fun _ _ h => h.elim)
  · repeat constructor
  · repeat constructor
  rintro _ _ ⟨rfl, c4, h4, rfl⟩
  have oc := out_pub (dec := decN 0) (z := 0) wr3 st3
  have hlt := rdOf_lt (st := st3)
  obtain ⟨n, hn⟩ : ∃ b, b = (rdOf (decN 0) 0 st3).1 := ⟨_, rfl⟩
  obtain ⟨st4, hst4⟩ : ∃ b, b = (rdOf (decN 0) 0 st3).2 := ⟨_, rfl⟩
  rw [← hn, ← hst4] at oc
  rw [← hn] at hlt ⊢
  rw [← hst4] at h4
  have hB : ∀ l, eff wr3 st4 = some l → l.length ≤ b.length := out_len (fun _ _ _ h => decN_len h) oc (out_len (fun _ _ _ h => (decS_len h).1) o3 (out_len (fun _ _ _ h => (decS_len h).1) o2 (out_len decK_len o1 (fun l h => by cases h; exact Nat.le_refl _))))
  refine sl_as rfl rfl rfl ?_
  refine sl_nil ?_
  refine sw_seq ?_
  refine sw_cutx (fun sX δX σX => sX = ⟨87, (.cons 2 (.ptr b2 0) (.cons 4 (.ptr b12 0) (.cons 5 (.ptr b5 0) (.cons 6 (.val (u64V n)) .nil))))⟩ ∧ δX = [] ∧ σX = .blk b12 [.ptr q 0, .val (.bool (wr3 || decide (b.length < n)))] :: c4 :: .blk b5 [.val (.int .i64 (k : Int)), .val (.int .i64 x2), .val (.int .i64 x3), .fix [], .val (.str []), .val (.int .i64 0)] :: .blk b2 zeroY :: σ) ?_ ?_
  · refine sl_region ?_
    refine sl_mv rfl rfl rfl ?_
    refine sl_mv rfl rfl rfl ?_
    refine sl_nc rfl rfl rfl rfl ?_
    first
      | refine sl_fieldAddr_ptr rfl rfl rfl fo_60_1 ?_
      | refine sl_fieldAddr_rp rfl rfl rfl fo_60_1 ?_
      | refine sl_fieldAddr_ref rfl rfl rfl fo_60_1 ?_
    first
      | refine sl_load_rp1 rfl rfl rfl ag_4 rfl ?_
      | refine sl_load_blk1 rfl rfl rfl ag_4 (by repeat constructor) rfl ?_
    refine sl_mv rfl rfl rfl ?_
    refine sl_case_at 32 rfl (fun hw => ?_) (fun hw => ?_)
    · have hw1 : wr3 = true := hw
      subst hw1
      refine sl_guard_n rfl rfl rfl hw ?_
      refine sl_guard_n rfl rfl rfl hw ?_
      refine sl_guard_n rfl rfl rfl hw ?_
      refine sl_guard_n rfl rfl rfl hw ?_
      refine sl_guard_n rfl rfl rfl hw ?_
      refine sl_pk_t rfl rfl rfl hw rfl ?_
      refine sl_nc rfl rfl rfl rfl ?_
      first
        | refine sl_fieldAddr_ptr rfl rfl rfl fo_60_1 ?_
        | refine sl_fieldAddr_rp rfl rfl rfl fo_60_1 ?_
        | refine sl_fieldAddr_ref rfl rfl rfl fo_60_1 ?_
      refine sl_stp rfl rfl rfl rfl sz_4 rfl rfl rfl (by repeat constructor) (Nat.le_of_ble_eq_true rfl) ?_
      refine sl_nil ?_
      refine ⟨_, _, ?_, ?_, rfl, rfl, rfl⟩
      · exact ⟨rfl, by repeat constructor⟩
      · repeat constructor
    have hw1 : wr3 = false := hw
    subst hw1
    refine sl_guard_y rfl rfl rfl hw ?_
    refine sl_mv rfl rfl rfl ?_
    refine sl_guard_y rfl rfl rfl hw ?_
    refine sl_mv rfl rfl rfl ?_
    refine sl_guard_y rfl rfl rfl hw ?_
    first
      | refine sl_len rfl rfl rfl ⟨_, u_28⟩ ?_
      | refine sl_len_sl rfl rfl rfl ⟨_, u_28⟩ ?_
      | refine sl_len_w _ rfl rfl rfl ⟨_, u_28⟩ ?_
    refine sl_guard_y rfl rfl rfl hw ?_
    refine sl_conv_int rfl rfl rfl is_3 u_62 ?_
    refine sl_set 36 (.val (.int .u64 (b.length : Int))) (len_u64 (by omega)) ?_
    refine sl_guard_y rfl rfl rfl hw ?_
    refine sl_bin rfl rfl rfl rfl rfl ?_
    refine sl_set 37 (.val (.bool (or false (decide (b.length < n))))) (congrArg (fun z => D.val (.bool z)) (by rw [Bool.false_or]; exact decide_eq_decide.mpr (by constructor <;> intro h <;> omega))) ?_
    refine sl_pk_f rfl rfl rfl hw rfl ?_
    refine sl_nc rfl rfl rfl rfl ?_
    first
      | refine sl_fieldAddr_ptr rfl rfl rfl fo_60_1 ?_
      | refine sl_fieldAddr_rp rfl rfl rfl fo_60_1 ?_
      | refine sl_fieldAddr_ref rfl rfl rfl fo_60_1 ?_
    refine sl_stp rfl rfl rfl rfl sz_4 rfl rfl rfl (by repeat constructor) (Nat.le_of_ble_eq_true rfl) ?_
    refine sl_nil ?_
    refine ⟨_, _, ?_, ?_, rfl, rfl, rfl⟩
    · exact ⟨rfl, by repeat constructor⟩
    · repeat constructor
  rintro sX δX σX ⟨rfl, rfl, rfl⟩
  have o4' : ∀ (al : List Alm) (E : Option (List UInt8)), Out (decMany decA n) (eff (wr3 || decide (b.length < n)) st4) al E → Out decAl (eff wr3 st3) al E := fun al E h => al_count oc hB (by rw [eff_or] at h; exact h)
  have hnb0 : (wr3 || decide (b.length < n)) = false → n ≤ b.length := fun h => by simp at h; omega
  refine sw_seq ?_
  refine sw_seq ?_
  refine sl_region ?_
  refine sl_as rfl rfl rfl ?_
  refine sl_nil ?_
  refine sw_block ?_
  refine sw_less (σ' := .blk b5 [.val (.int .i64 (k : Int)), .val (.int .i64 x2), .val (.int .i64 x3), .fix [], .val (.str []), .val (.int .i64 0)] :: .blk b12 [.ptr q 0, .val (.bool (wr3 || decide (b.length < n)))] :: c4 :: .blk b2 zeroY :: σ) (by repeat constructor) ?_
  refine sw_own_blk (i := 3) (sz := 2) rfl (fun e0 => ?_)
  refine sw_loopw (fun nX sX δX σX => ∃ (j : Nat) (v : Value) (al : List Alm) (wr : Bool) (st : Option (List UInt8)) (c : Chunk), (n - j) = nX ∧ sX = ⟨87, (.cons 2 (.ptr b2 0) (.cons 4 (.ptr b12 0) (.cons 5 (.ptr b5 0) (.cons 6 (.val (u64V n)) (.cons 7 (.val (.int .u64 (j : Int))) .nil)))))⟩ ∧ δX = [] ∧ σX = .blk b12 [.ptr q 0, .val (.bool wr)] :: c :: .blk b5 [.val (.int .i64 (k : Int)), .val (.int .i64 x2), .val (.int .i64 x3), .own v (al.map almV), .val (.str []), .val (.int .i64 0)] :: .spare v 2 :: .blk b2 zeroY :: σ ∧ (j ≤ n) ∧ (Out (decMany decA j) (eff (wr3 || decide (b.length < n)) st4) al (eff wr st)) ∧ (Rdr q st c) ∧ (al.length ≤ j) ∧ (wr = false → n ≤ b.length)) ?_ ?_
  · refine ⟨_, _, _, ?_, ?_, 0, e0, [], _, st4, c4, rfl, rfl, rfl, rfl, (Nat.zero_le _), (many_zero' _), (h4), (Nat.le_refl _), (hnb0)⟩
    · exact ⟨rfl, by repeat constructor⟩
    · repeat constructor
  rintro nX sX δX σX ⟨j, v, al, wr, st, c, rfl, rfl, rfl, rfl, hj0, hout, hrd, hal, hwn⟩
  refine sw_seq ?_
  refine sw_seq ?_
  refine sl_region ?_
  refine sl_mv rfl rfl rfl ?_
  refine sl_mv rfl rfl rfl ?_
  refine sl_bin rfl rfl rfl rfl rfl ?_
  refine sl_mv rfl rfl rfl ?_
  refine sl_case_at 44 rfl (fun hj => ?_) (fun hj => ?_)
  · have hj1 : j < n := by have := of_decide_eq_true hj; omega
    refine sl_guard_y rfl rfl rfl hj ?_
    refine sl_mv rfl rfl rfl ?_
    refine sl_guard_y rfl rfl rfl hj ?_
    refine sl_nc rfl rfl rfl rfl ?_
    refine sl_guard_y rfl rfl rfl hj ?_
    first
      | refine sl_fieldAddr_ptr rfl rfl rfl fo_60_1 ?_
      | refine sl_fieldAddr_rp rfl rfl rfl fo_60_1 ?_
      | refine sl_fieldAddr_ref rfl rfl rfl fo_60_1 ?_
    refine sl_guard_y rfl rfl rfl hj ?_
    first
      | refine sl_load_rp1 rfl rfl rfl ag_4 rfl ?_
      | refine sl_load_blk1 rfl rfl rfl ag_4 (by repeat constructor) rfl ?_
    refine sl_guard_y rfl rfl rfl hj ?_
    refine sl_not rfl rfl rfl ?_
    refine sl_pk_t rfl rfl rfl hj rfl ?_
    refine sl_nil ?_
    refine sw_cond rfl (fun hw => ?_) (fun hw => ?_)
    · have hw1 : wr = false := by simpa using hw
      have hnb := hwn hw1
      refine sw_skip ?_
      refine sw_seq ?_
      refine sw_block ?_
      refine sw_seq ?_
      refine sl_region ?_
      refine sl_mv rfl rfl rfl ?_
      refine sl_callf rfl rfl cal_35 (qsmall_ok b12 q wr st c (.blk b5 [.val (.int .i64 (k : Int)), .val (.int .i64 x2), .val (.int .i64 x3), .own v (al.map almV), .val (.str []), .val (.int .i64 0)] :: .spare v 2 :: .blk b2 zeroY :: σ) hrd) ?_ ?_ ?_ (fun _ _ h => h.elim)
      · repeat constructor
      · repeat constructor
      rintro _ _ ⟨aA, wrA, stA, cA, rfl, oA, hA, rfl⟩
      refine sl_as rfl rfl rfl ?_
      refine sl_nil ?_
      refine sa_start [] mixed ?_
      first
        | refine sa_take 0 rfl rfl (by kernel_rfl) .nil (pu_fieldAddr_ptr rfl rfl fo_32_3) ?_
        | refine sa_take 0 rfl rfl (by kernel_rfl) .nil (pu_fieldAddr_rp rfl rfl fo_32_3) ?_
        | refine sa_take 0 rfl rfl (by kernel_rfl) .nil (pu_fieldAddr_ref rfl rfl fo_32_3) ?_
      refine sa_take 2 rfl rfl (by kernel_rfl) .nil (pu_mv rfl rfl) ?_
      refine sa_take 3 rfl rfl (by kernel_rfl) .nil (pu_mv rfl rfl) ?_
      refine sa_two 1 4 (by kernel_rfl) rfl rfl ?_ ?_
      · refine sl_load_blk1 rfl rfl rfl ag_30 (by repeat constructor) rfl ?_
        refine sl_nil ⟨.nil, ?_⟩
        refine sa_one 4 (by kernel_rfl) rfl ?_
        refine sl_callf rfl rfl cal_35 (qsmall_ok b12 q wrA stA cA (.blk b5 [.val (.int .i64 (k : Int)), .val (.int .i64 x2), .val (.int .i64 x3), .own v (al.map almV), .val (.str []), .val (.int .i64 0)] :: .spare v 2 :: .blk b2 zeroY :: σ) hA) ?_ ?_ ?_ (fun _ _ h => h.elim)
        · repeat constructor
        · repeat constructor
        rintro _ _ ⟨aB, wrB, stB, cB, rfl, oB, hB, rfl⟩
        refine sl_nil ⟨.nil, ?_⟩
        refine sa_take 5 rfl rfl (by kernel_rfl) .nil (pu_bd rfl (.cons rfl (.cons rfl .nil)) bi_55 zd_55 rfl) ?_
        refine sa_one 6 (by kernel_rfl) rfl ?_
        refine sl_bsn ([almV ⟨aA, aB⟩]) rfl rfl (.cons rfl .nil) u_30 sz_55 zs_55 (by decide) rfl rfl rfl (SzI.get (by repeat constructor)) ?_
        refine sl_nil ⟨.nil, ?_⟩
        refine sa_one 7 (by kernel_rfl) rfl ?_
        refine sl_appp rfl rfl rfl rfl u_30 ⟨_, u_30, rfl⟩ el_55 (by repeat constructor) (by repeat constructor) (by simp only [List.length_map, List.length_cons, List.length_nil]; omega) ((by rw [List.map_append]; rfl : _ = (al ++ [Alm.mk aA aB]).map almV)) (by repeat constructor) (fun v62 => ?_)
        refine sl_nil ⟨.nil, ?_⟩
        first
          | refine sa_take 8 rfl rfl (by kernel_rfl) .nil (pu_fieldAddr_ptr rfl rfl fo_32_3) ?_
          | refine sa_take 8 rfl rfl (by kernel_rfl) .nil (pu_fieldAddr_rp rfl rfl fo_32_3) ?_
          | refine sa_take 8 rfl rfl (by kernel_rfl) .nil (pu_fieldAddr_ref rfl rfl fo_32_3) ?_
        refine sa_one 9 (by kernel_rfl) rfl ?_
        refine sl_stp rfl rfl rfl rfl sz_30 rfl rfl rfl (by repeat constructor) (Nat.le_of_ble_eq_true rfl) ?_
        refine sl_nil ⟨.nil, ?_⟩
        refine sa_done (by kernel_rfl) ?_
        refine sl_region ?_
        refine sl_mv rfl rfl rfl ?_
        refine sl_bin rfl rfl rfl rfl rfl ?_
        refine sl_set 52 (.val (.int .u64 ((j + 1 : Nat) : Int))) (congrArg (fun z => D.val (.int .u64 z)) (wrapped_u64 (j + 1) (by omega))) ?_
        refine sl_as rfl rfl rfl ?_
        refine sl_nil ?_
        refine ⟨_, by omega, _, _, ?_, ?_, j + 1, v62, _, wrB, stB, cB, rfl, rfl, rfl, rfl, (by omega), (many_step hout (out_alm oA oB)), (hB), (by rw [List.length_append]; simp; omega), (fun _ => hnb)⟩
        · exact ⟨rfl, by repeat constructor⟩
        · repeat constructor
      refine sl_callf rfl rfl cal_35 (qsmall_ok b12 q wrA stA cA (.blk b5 [.val (.int .i64 (k : Int)), .val (.int .i64 x2), .val (.int .i64 x3), .own v (al.map almV), .val (.str []), .val (.int .i64 0)] :: .spare v 2 :: .blk b2 zeroY :: σ) hA) ?_ ?_ ?_ (fun _ _ h => h.elim)
      · repeat constructor
      · repeat constructor
      rintro _ _ ⟨aB, wrB, stB, cB, rfl, oB, hB, rfl⟩
      refine sl_nil ⟨.nil, ?_⟩
      refine sa_take 5 rfl rfl (by kernel_rfl) .nil (pu_bd rfl (.cons rfl (.cons rfl .nil)) bi_55 zd_55 rfl) ?_
      refine sa_two 1 6 (by kernel_rfl) rfl rfl ?_ ?_
      · refine sl_load_blk1 rfl rfl rfl ag_30 (by repeat constructor) rfl ?_
        refine sl_nil ⟨.nil, ?_⟩
        refine sa_one 6 (by kernel_rfl) rfl ?_
        refine sl_bsn ([almV ⟨aA, aB⟩]) rfl rfl (.cons rfl .nil) u_30 sz_55 zs_55 (by decide) rfl rfl rfl (SzI.get (by repeat constructor)) ?_
        refine sl_nil ⟨.nil, ?_⟩
        refine sa_one 7 (by kernel_rfl) rfl ?_
        refine sl_appp rfl rfl rfl rfl u_30 ⟨_, u_30, rfl⟩ el_55 (by repeat constructor) (by repeat constructor) (by simp only [List.length_map, List.length_cons, List.length_nil]; omega) ((by rw [List.map_append]; rfl : _ = (al ++ [Alm.mk aA aB]).map almV)) (by repeat constructor) (fun v62 => ?_)
        refine sl_nil ⟨.nil, ?_⟩
        first
          | refine sa_take 8 rfl rfl (by kernel_rfl) .nil (pu_fieldAddr_ptr rfl rfl fo_32_3) ?_
          | refine sa_take 8 rfl rfl (by kernel_rfl) .nil (pu_fieldAddr_rp rfl rfl fo_32_3) ?_
          | refine sa_take 8 rfl rfl (by kernel_rfl) .nil (pu_fieldAddr_ref rfl rfl fo_32_3) ?_
        refine sa_one 9 (by kernel_rfl) rfl ?_
        refine sl_stp rfl rfl rfl rfl sz_30 rfl rfl rfl (by repeat constructor) (Nat.le_of_ble_eq_true rfl) ?_
        refine sl_nil ⟨.nil, ?_⟩
        refine sa_done (by kernel_rfl) ?_
        refine sl_region ?_
        refine sl_mv rfl rfl rfl ?_
        refine sl_bin rfl rfl rfl rfl rfl ?_
        refine sl_set 52 (.val (.int .u64 ((j + 1 : Nat) : Int))) (congrArg (fun z => D.val (.int .u64 z)) (wrapped_u64 (j + 1) (by omega))) ?_
        refine sl_as rfl rfl rfl ?_
        refine sl_nil ?_
        refine ⟨_, by omega, _, _, ?_, ?_, j + 1, v62, _, wrB, stB, cB, rfl, rfl, rfl, rfl, (by omega), (many_step hout (out_alm oA oB)), (hB), (by rw [List.length_append]; simp; omega), (fun _ => hnb)⟩
        · exact ⟨rfl, by repeat constructor⟩
        · repeat constructor
      refine sl_bsn ([almV ⟨aA, aB⟩]) rfl rfl (.cons rfl .nil) u_30 sz_55 zs_55 (by decide) rfl rfl rfl (SzI.get (by repeat constructor)) ?_
      refine sl_nil ⟨.nil, ?_⟩
      refine sa_one 1 (by kernel_rfl) rfl ?_
      refine sl_load_blk1 rfl rfl rfl ag_30 (by repeat constructor) rfl ?_
      refine sl_nil ⟨.nil, ?_⟩
      refine sa_one 7 (by kernel_rfl) rfl ?_
      refine sl_appp rfl rfl rfl rfl u_30 ⟨_, u_30, rfl⟩ el_55 (by repeat constructor) (by repeat constructor) (by simp only [List.length_map, List.length_cons, List.length_nil]; omega) ((by rw [List.map_append]; rfl : _ = (al ++ [Alm.mk aA aB]).map almV)) (by repeat constructor) (fun v62 => ?_)
      refine sl_nil ⟨.nil, ?_⟩
      first
        | refine sa_take 8 rfl rfl (by kernel_rfl) .nil (pu_fieldAddr_ptr rfl rfl fo_32_3) ?_
        | refine sa_take 8 rfl rfl (by kernel_rfl) .nil (pu_fieldAddr_rp rfl rfl fo_32_3) ?_
        | refine sa_take 8 rfl rfl (by kernel_rfl) .nil (pu_fieldAddr_ref rfl rfl fo_32_3) ?_
      refine sa_one 9 (by kernel_rfl) rfl ?_
      refine sl_stp rfl rfl rfl rfl sz_30 rfl rfl rfl (by repeat constructor) (Nat.le_of_ble_eq_true rfl) ?_
      refine sl_nil ⟨.nil, ?_⟩
      refine sa_done (by kernel_rfl) ?_
      refine sl_region ?_
      refine sl_mv rfl rfl rfl ?_
      refine sl_bin rfl rfl rfl rfl rfl ?_
      refine sl_set 52 (.val (.int .u64 ((j + 1 : Nat) : Int))) (congrArg (fun z => D.val (.int .u64 z)) (wrapped_u64 (j + 1) (by omega))) ?_
      refine sl_as rfl rfl rfl ?_
      refine sl_nil ?_
      refine ⟨_, by omega, _, _, ?_, ?_, j + 1, v62, _, wrB, stB, cB, rfl, rfl, rfl, rfl, (by omega), (many_step hout (out_alm oA oB)), (hB), (by rw [List.length_append]; simp; omega), (fun _ => hnb)⟩
      · exact ⟨rfl, by repeat constructor⟩
      · repeat constructor
    have hw1 : wr = true := by simpa using hw
    have o4 : Out decAl (eff wr3 st3) al (eff wr st) := o4' al _ (by subst hw1; exact many_fail' hout hj0)
    refine sw_exit ?_
    refine sw_seq ?_
    refine sl_region ?_
    refine sl_mv rfl rfl rfl ?_
    refine sl_nc rfl rfl rfl rfl ?_
    first
      | refine sl_fieldAddr_ptr rfl rfl rfl fo_60_0 ?_
      | refine sl_fieldAddr_rp rfl rfl rfl fo_60_0 ?_
      | refine sl_fieldAddr_ref rfl rfl rfl fo_60_0 ?_
    first
      | refine sl_load_rp1 rfl rfl rfl ag_57 rfl ?_
      | refine sl_load_blk1 rfl rfl rfl ag_57 (by repeat constructor) rfl ?_
    refine sl_callf rfl rfl cal_34 (pText_ok q st c (.blk b12 [.ptr q 0, .val (.bool wr)] :: .blk b5 [.val (.int .i64 (k : Int)), .val (.int .i64 x2), .val (.int .i64 x3), .own v (al.map almV), .val (.str []), .val (.int .i64 0)] :: .spare v 2 :: .blk b2 zeroY :: σ) hrd) ?_ ?_ ?_ (fun _ _ h => h.elim)
    · repeat constructor
    · repeat constructor
    rintro _ _ ⟨rfl, c7, h7, rfl⟩
    have o5 := out_pub (dec := decT) (z := []) wr st
    obtain ⟨x5, hx5⟩ : ∃ b, b = (rdOf decT [] st).1 := ⟨_, rfl⟩
    obtain ⟨st7, hst7⟩ : ∃ b, b = (rdOf decT [] st).2 := ⟨_, rfl⟩
    rw [← hx5, ← hst7] at o5
    rw [← hst7] at h7
    rw [← hx5]
    first
      | refine sl_fieldAddr_ptr rfl rfl rfl fo_32_4 ?_
      | refine sl_fieldAddr_rp rfl rfl rfl fo_32_4 ?_
      | refine sl_fieldAddr_ref rfl rfl rfl fo_32_4 ?_
    refine sl_stp rfl rfl rfl rfl sz_9 rfl rfl rfl (by repeat constructor) (Nat.le_of_ble_eq_true rfl) ?_
    refine sl_nil ?_
    refine sw_seq ?_
    refine sl_region ?_
    refine sl_mv rfl rfl rfl ?_
    refine sl_callf rfl rfl cal_35 (qsmall_ok b12 q wr st7 c7 (.blk b5 [.val (.int .i64 (k : Int)), .val (.int .i64 x2), .val (.int .i64 x3), .own v (al.map almV), .val (strV x5), .val (.int .i64 0)] :: .spare v 2 :: .blk b2 zeroY :: σ) h7) ?_ ?_ ?_ (fun _ _ h => h.elim)
    · repeat constructor
    · repeat constructor
    rintro _ _ ⟨n6, wr8, st8, c8, rfl, o6, h8, rfl⟩
    have oo := out_repK o1 o2 o3 o4 o5 o6
    first
      | refine sl_fieldAddr_ptr rfl rfl rfl fo_32_5 ?_
      | refine sl_fieldAddr_rp rfl rfl rfl fo_32_5 ?_
      | refine sl_fieldAddr_ref rfl rfl rfl fo_32_5 ?_
    refine sl_stp rfl rfl rfl rfl sz_3 rfl rfl rfl (by repeat constructor) (Nat.le_of_ble_eq_true rfl) ?_
    refine sl_nil ?_
    refine sw_seq ?_
    refine sw_seq ?_
    refine sl_region ?_
    refine sl_mv rfl rfl rfl ?_
    refine sl_nc rfl rfl rfl rfl ?_
    first
      | refine sl_fieldAddr_ptr rfl rfl rfl fo_60_1 ?_
      | refine sl_fieldAddr_rp rfl rfl rfl fo_60_1 ?_
      | refine sl_fieldAddr_ref rfl rfl rfl fo_60_1 ?_
    first
      | refine sl_load_rp1 rfl rfl rfl ag_4 rfl ?_
      | refine sl_load_blk1 rfl rfl rfl ag_4 (by repeat constructor) rfl ?_
    refine sl_mv rfl rfl rfl ?_
    refine sl_case_at 77 rfl (fun hw8 => ?_) (fun hw8 => ?_)
    · have hw81 : wr8 = true := hw8
      subst hw81
      refine sl_guard_n rfl rfl rfl hw8 ?_
      refine sl_guard_n rfl rfl rfl hw8 ?_
      refine sl_guard_n rfl rfl rfl hw8 ?_
      refine sl_guard_n rfl rfl rfl hw8 ?_
      refine sl_guard_n rfl rfl rfl hw8 ?_
      refine sl_guard_n rfl rfl rfl hw8 ?_
      refine sl_pk_t rfl rfl rfl hw8 rfl ?_
      refine sl_nil ?_
      refine sw_true rfl (rfl) ?_
      refine sw_seq ?_
      refine sl_region ?_
      refine sl_bd rfl rfl .nil bi_32 zd_32 rfl ?_
      refine sl_stp rfl rfl rfl rfl sz_32 rfl rfl rfl (by repeat constructor) (Nat.le_of_ble_eq_true rfl) ?_
      refine sl_as rfl rfl rfl ?_
      refine sl_nil ?_
      refine sw_ret ⟨rfl, _, _, ResD.weaks (ds' := [.val (repV noRep), .val (.int .i64 80)]) (res_mix (rs := [.cell 2 32, .tmp 3]) rfl (by decide) (.celln rfl ag_32 sz_32 (by repeat constructor) (Nat.le_of_ble_eq_true rfl) (.tmp rfl .nil))) (by repeat constructor), ?_, by rw [openRepK, whole_bad (ok := fun _ => True) oo (.inl eff_wrong)]; exact ⟨rfl, rfl⟩⟩
      repeat constructor
    have hw81 : wr8 = false := hw8
    subst hw81
    refine sl_guard_y rfl rfl rfl hw8 ?_
    refine sl_mv rfl rfl rfl ?_
    refine sl_guard_y rfl rfl rfl hw8 ?_
    refine sl_nc rfl rfl rfl rfl ?_
    refine sl_guard_y rfl rfl rfl hw8 ?_
    first
      | refine sl_fieldAddr_ptr rfl rfl rfl fo_60_0 ?_
      | refine sl_fieldAddr_rp rfl rfl rfl fo_60_0 ?_
      | refine sl_fieldAddr_ref rfl rfl rfl fo_60_0 ?_
    refine sl_guard_y rfl rfl rfl hw8 ?_
    first
      | refine sl_load_rp1 rfl rfl rfl ag_57 rfl ?_
      | refine sl_load_blk1 rfl rfl rfl ag_57 (by repeat constructor) rfl ?_
    refine sl_guard_y rfl rfl rfl hw8 ?_
    refine sl_callf rfl rfl cal_36 (done_ok q st8 c8 (.blk b12 [.ptr q 0, .val (.bool false)] :: .blk b5 [.val (.int .i64 (k : Int)), .val (.int .i64 x2), .val (.int .i64 x3), .own v (al.map almV), .val (strV x5), .val (.int .i64 n6)] :: .spare v 2 :: .blk b2 zeroY :: σ) h8) ?_ ?_ ?_ (fun _ _ h => h.elim)
    · repeat constructor
    · repeat constructor
    rintro _ _ ⟨rfl, rfl⟩
    refine sl_guard_y rfl rfl rfl hw8 ?_
    refine sl_bin rfl rfl rfl rfl rfl ?_
    refine sl_pk_f rfl rfl rfl hw8 rfl ?_
    refine sl_nil ?_
    refine sw_cond rfl (fun he => ?_) (fun he => ?_)
    · refine sw_seq ?_
      refine sl_region ?_
      refine sl_bd rfl rfl .nil bi_32 zd_32 rfl ?_
      refine sl_stp rfl rfl rfl rfl sz_32 rfl rfl rfl (by repeat constructor) (Nat.le_of_ble_eq_true rfl) ?_
      refine sl_as rfl rfl rfl ?_
      refine sl_nil ?_
      refine sw_ret ⟨rfl, _, _, ResD.weaks (ds' := [.val (repV noRep), .val (.int .i64 80)]) (res_mix (rs := [.cell 2 32, .tmp 3]) rfl (by decide) (.celln rfl ag_32 sz_32 (by repeat constructor) (Nat.le_of_ble_eq_true rfl) (.tmp rfl .nil))) (by repeat constructor), ?_, by rw [openRepK, whole_bad (ok := fun _ => True) oo (.inl (doneV_ne he))]; exact ⟨rfl, rfl⟩⟩
      repeat constructor
    have he2 := doneV_eq he
    subst he2
    refine sw_skip ?_
    refine sw_seq ?_
    refine sl_region ?_
    first
      | refine sl_load_rpn rfl rfl rfl ag_32 sz_32 (Nat.le_of_ble_eq_true rfl) ?_
      | refine sl_load_blkn rfl rfl rfl ag_32 sz_32 (by repeat constructor) (Nat.le_of_ble_eq_true rfl) ?_
      | refine sl_load_ref rfl rfl rfl ag_32 sz_32 (Nat.le_of_ble_eq_true rfl) ?_
    refine sl_stp rfl rfl rfl rfl sz_32 rfl rfl rfl (by repeat constructor) (Nat.le_of_ble_eq_true rfl) ?_
    refine sl_as rfl rfl rfl ?_
    refine sl_nil ?_
    refine sw_ret ⟨rfl, _, _, ResD.weaks (ds' := [.val (repV ⟨k, x2, x3, al, x5, n6⟩), .val (.int .i64 0)]) (res_mix (rs := [.cell 2 32, .tmp 3]) rfl (by decide) (.celln rfl ag_32 sz_32 (by repeat constructor) (Nat.le_of_ble_eq_true rfl) (.tmp rfl .nil))) (by repeat constructor), ?_, by rw [openRepK, whole_good (ok := fun _ => True) oo trivial]; exact ⟨rfl, rfl⟩⟩
    repeat constructor
  refine sl_guard_n rfl rfl rfl hj ?_
  refine sl_guard_n rfl rfl rfl hj ?_
  refine sl_guard_n rfl rfl rfl hj ?_
  refine sl_guard_n rfl rfl rfl hj ?_
  refine sl_guard_n rfl rfl rfl hj ?_
  refine sl_pk_f rfl rfl rfl hj rfl ?_
  refine sl_nil ?_
  refine sw_false rfl (rfl) ?_
  have hj1 : j = n := by have := of_decide_eq_false hj; omega
  subst hj1
  have o4 : Out decAl (eff wr3 st3) al (eff wr st) := o4' al _ hout
  refine sw_exit ?_
  refine sw_seq ?_
  refine sl_region ?_
  refine sl_mv rfl rfl rfl ?_
  refine sl_nc rfl rfl rfl rfl ?_
  first
    | refine sl_fieldAddr_ptr rfl rfl rfl fo_60_0 ?_
    | refine sl_fieldAddr_rp rfl rfl rfl fo_60_0 ?_
    | refine sl_fieldAddr_ref rfl rfl rfl fo_60_0 ?_
  first
    | refine sl_load_rp1 rfl rfl rfl ag_57 rfl ?_
    | refine sl_load_blk1 rfl rfl rfl ag_57 (by repeat constructor) rfl ?_
  refine sl_callf rfl rfl cal_34 (pText_ok q st c (.blk b12 [.ptr q 0, .val (.bool wr)] :: .blk b5 [.val (.int .i64 (k : Int)), .val (.int .i64 x2), .val (.int .i64 x3), .own v (al.map almV), .val (.str []), .val (.int .i64 0)] :: .spare v 2 :: .blk b2 zeroY :: σ) hrd) ?_ ?_ ?_ (fun _ _ h => h.elim)
  · repeat constructor
  · repeat constructor
  rintro _ _ ⟨rfl, c7, h7, rfl⟩
  have o5 := out_pub (dec := decT) (z := []) wr st
  obtain ⟨x5, hx5⟩ : ∃ b, b = (rdOf decT [] st).1 := ⟨_, rfl⟩
  obtain ⟨st7, hst7⟩ : ∃ b, b = (rdOf decT [] st).2 := ⟨_, rfl⟩
  rw [← hx5, ← hst7] at o5
  rw [← hst7] at h7
  rw [← hx5]
  first
    | refine sl_fieldAddr_ptr rfl rfl rfl fo_32_4 ?_
    | refine sl_fieldAddr_rp rfl rfl rfl fo_32_4 ?_
    | refine sl_fieldAddr_ref rfl rfl rfl fo_32_4 ?_
  refine sl_stp rfl rfl rfl rfl sz_9 rfl rfl rfl (by repeat constructor) (Nat.le_of_ble_eq_true rfl) ?_
  refine sl_nil ?_
  refine sw_seq ?_
  refine sl_region ?_
  refine sl_mv rfl rfl rfl ?_
  refine sl_callf rfl rfl cal_35 (qsmall_ok b12 q wr st7 c7 (.blk b5 [.val (.int .i64 (k : Int)), .val (.int .i64 x2), .val (.int .i64 x3), .own v (al.map almV), .val (strV x5), .val (.int .i64 0)] :: .spare v 2 :: .blk b2 zeroY :: σ) h7) ?_ ?_ ?_ (fun _ _ h => h.elim)
  · repeat constructor
  · repeat constructor
  rintro _ _ ⟨n6, wr8, st8, c8, rfl, o6, h8, rfl⟩
  have oo := out_repK o1 o2 o3 o4 o5 o6
  first
    | refine sl_fieldAddr_ptr rfl rfl rfl fo_32_5 ?_
    | refine sl_fieldAddr_rp rfl rfl rfl fo_32_5 ?_
    | refine sl_fieldAddr_ref rfl rfl rfl fo_32_5 ?_
  refine sl_stp rfl rfl rfl rfl sz_3 rfl rfl rfl (by repeat constructor) (Nat.le_of_ble_eq_true rfl) ?_
  refine sl_nil ?_
  refine sw_seq ?_
  refine sw_seq ?_
  refine sl_region ?_
  refine sl_mv rfl rfl rfl ?_
  refine sl_nc rfl rfl rfl rfl ?_
  first
    | refine sl_fieldAddr_ptr rfl rfl rfl fo_60_1 ?_
    | refine sl_fieldAddr_rp rfl rfl rfl fo_60_1 ?_
    | refine sl_fieldAddr_ref rfl rfl rfl fo_60_1 ?_
  first
    | refine sl_load_rp1 rfl rfl rfl ag_4 rfl ?_
    | refine sl_load_blk1 rfl rfl rfl ag_4 (by repeat constructor) rfl ?_
  refine sl_mv rfl rfl rfl ?_
  refine sl_case_at 77 rfl (fun hw8 => ?_) (fun hw8 => ?_)
  · have hw81 : wr8 = true := hw8
    subst hw81
    refine sl_guard_n rfl rfl rfl hw8 ?_
    refine sl_guard_n rfl rfl rfl hw8 ?_
    refine sl_guard_n rfl rfl rfl hw8 ?_
    refine sl_guard_n rfl rfl rfl hw8 ?_
    refine sl_guard_n rfl rfl rfl hw8 ?_
    refine sl_guard_n rfl rfl rfl hw8 ?_
    refine sl_pk_t rfl rfl rfl hw8 rfl ?_
    refine sl_nil ?_
    refine sw_true rfl (rfl) ?_
    refine sw_seq ?_
    refine sl_region ?_
    refine sl_bd rfl rfl .nil bi_32 zd_32 rfl ?_
    refine sl_stp rfl rfl rfl rfl sz_32 rfl rfl rfl (by repeat constructor) (Nat.le_of_ble_eq_true rfl) ?_
    refine sl_as rfl rfl rfl ?_
    refine sl_nil ?_
    refine sw_ret ⟨rfl, _, _, ResD.weaks (ds' := [.val (repV noRep), .val (.int .i64 80)]) (res_mix (rs := [.cell 2 32, .tmp 3]) rfl (by decide) (.celln rfl ag_32 sz_32 (by repeat constructor) (Nat.le_of_ble_eq_true rfl) (.tmp rfl .nil))) (by repeat constructor), ?_, by rw [openRepK, whole_bad (ok := fun _ => True) oo (.inl eff_wrong)]; exact ⟨rfl, rfl⟩⟩
    repeat constructor
  have hw81 : wr8 = false := hw8
  subst hw81
  refine sl_guard_y rfl rfl rfl hw8 ?_
  refine sl_mv rfl rfl rfl ?_
  refine sl_guard_y rfl rfl rfl hw8 ?_
  refine sl_nc rfl rfl rfl rfl ?_
  refine sl_guard_y rfl rfl rfl hw8 ?_
  first
    | refine sl_fieldAddr_ptr rfl rfl rfl fo_60_0 ?_
    | refine sl_fieldAddr_rp rfl rfl rfl fo_60_0 ?_
    | refine sl_fieldAddr_ref rfl rfl rfl fo_60_0 ?_
  refine sl_guard_y rfl rfl rfl hw8 ?_
  first
    | refine sl_load_rp1 rfl rfl rfl ag_57 rfl ?_
    | refine sl_load_blk1 rfl rfl rfl ag_57 (by repeat constructor) rfl ?_
  refine sl_guard_y rfl rfl rfl hw8 ?_
  refine sl_callf rfl rfl cal_36 (done_ok q st8 c8 (.blk b12 [.ptr q 0, .val (.bool false)] :: .blk b5 [.val (.int .i64 (k : Int)), .val (.int .i64 x2), .val (.int .i64 x3), .own v (al.map almV), .val (strV x5), .val (.int .i64 n6)] :: .spare v 2 :: .blk b2 zeroY :: σ) h8) ?_ ?_ ?_ (fun _ _ h => h.elim)
  · repeat constructor
  · repeat constructor
  rintro _ _ ⟨rfl, rfl⟩
  refine sl_guard_y rfl rfl rfl hw8 ?_
  refine sl_bin rfl rfl rfl rfl rfl ?_
  refine sl_pk_f rfl rfl rfl hw8 rfl ?_
  refine sl_nil ?_
  refine sw_cond rfl (fun he => ?_) (fun he => ?_)
  · refine sw_seq ?_
    refine sl_region ?_
    refine sl_bd rfl rfl .nil bi_32 zd_32 rfl ?_
    refine sl_stp rfl rfl rfl rfl sz_32 rfl rfl rfl (by repeat constructor) (Nat.le_of_ble_eq_true rfl) ?_
    refine sl_as rfl rfl rfl ?_
    refine sl_nil ?_
    refine sw_ret ⟨rfl, _, _, ResD.weaks (ds' := [.val (repV noRep), .val (.int .i64 80)]) (res_mix (rs := [.cell 2 32, .tmp 3]) rfl (by decide) (.celln rfl ag_32 sz_32 (by repeat constructor) (Nat.le_of_ble_eq_true rfl) (.tmp rfl .nil))) (by repeat constructor), ?_, by rw [openRepK, whole_bad (ok := fun _ => True) oo (.inl (doneV_ne he))]; exact ⟨rfl, rfl⟩⟩
    repeat constructor
  have he2 := doneV_eq he
  subst he2
  refine sw_skip ?_
  refine sw_seq ?_
  refine sl_region ?_
  first
    | refine sl_load_rpn rfl rfl rfl ag_32 sz_32 (Nat.le_of_ble_eq_true rfl) ?_
    | refine sl_load_blkn rfl rfl rfl ag_32 sz_32 (by repeat constructor) (Nat.le_of_ble_eq_true rfl) ?_
    | refine sl_load_ref rfl rfl rfl ag_32 sz_32 (Nat.le_of_ble_eq_true rfl) ?_
  refine sl_stp rfl rfl rfl rfl sz_32 rfl rfl rfl (by repeat constructor) (Nat.le_of_ble_eq_true rfl) ?_
  refine sl_as rfl rfl rfl ?_
  refine sl_nil ?_
  refine sw_ret ⟨rfl, _, _, ResD.weaks (ds' := [.val (repV ⟨k, x2, x3, al, x5, n6⟩), .val (.int .i64 0)]) (res_mix (rs := [.cell 2 32, .tmp 3]) rfl (by decide) (.celln rfl ag_32 sz_32 (by repeat constructor) (Nat.le_of_ble_eq_true rfl) (.tmp rfl .nil))) (by repeat constructor), ?_, by rw [openRepK, whole_good (ok := fun _ => True) oo trivial]; exact ⟨rfl, rfl⟩⟩
  repeat constructor

end Go.Proofs.Ytipacoopapjdpaa

/- Walks: printed by a program of this session out of its script ReqF. -/
namespace Go.Proofs.Ytipacoopapjdpaa
set_option linter.unusedVariables false
set_option linter.unusedSimpArgs false
set_option maxRecDepth 4000
set_option maxHeartbeats 4000000
open Go Go.RowKit SL


/-- What is known of requests. -/
theorem known24_ok (σ : List Chunk) : FSpec Try.prog 8 [] σ (fun d σ' => d = .val (.bool true) ∧ σ' = σ) := by
  refine spec_of_sw Try.func8 rfl ?_
  refine sw_seq ?_
  refine sl_region ?_
  refine sl_as rfl rfl rfl ?_
  refine sl_nil ?_
  refine sw_seq ?_
  refine sl_region ?_
  refine sl_bd rfl rfl (.cons rfl (.cons rfl .nil)) bi_24 zd_24 rfl ?_
  refine sl_callf rfl rfl cal_30 (qbytes_ok kReq σ kReq_ok (by decide) (by decide)) ?_ ?_ ?_ (fun _ _ h => h.elim)
  · repeat constructor
  · repeat constructor
  rintro _ _ ⟨rfl, hσ⟩
  have hσ2 := hσ.symm
  subst hσ2
  refine sl_as rfl rfl rfl ?_
  refine sl_nil ?_
  refine sw_seq ?_
  refine sl_region ?_
  refine sl_mv rfl rfl rfl ?_
  refine sl_callf rfl rfl cal_9 (qopen_ok (encReq kReq) σ (by rw [kReq_bytes]; decide)) ?_ ?_ ?_ (fun _ _ h => h.elim)
  · repeat constructor
  · repeat constructor
  rintro _ _ ⟨rfl, hσ⟩
  have hσ2 := hσ.symm
  subst hσ2
  rw [kReq_open]
  refine sl_mv rfl rfl rfl ?_
  refine sl_extract rfl rfl rfl rfl ?_
  refine sl_extract rfl rfl rfl rfl ?_
  refine sl_alloc rfl rfl zd_24 (fun b2 => ?_)
  refine sl_stp rfl rfl rfl rfl sz_24 rfl rfl rfl (by repeat constructor) (Nat.le_of_ble_eq_true rfl) ?_
  refine sl_as rfl rfl rfl ?_
  refine sl_nil ?_
  refine sw_seq ?_
  refine sl_region ?_
  refine sl_callf rfl rfl cal_9 (qopen_ok [] (.blk b2 (rowOf (reqV kReq)) :: σ) (by decide)) ?_ ?_ ?_ (fun _ _ h => h.elim)
  · repeat constructor
  · repeat constructor
  rintro _ _ ⟨rfl, hσ⟩
  have hσ2 := hσ.symm
  subst hσ2
  rw [open_nil]
  refine sl_mv rfl rfl rfl ?_
  refine sl_extract rfl rfl rfl rfl ?_
  refine sl_extract rfl rfl rfl rfl ?_
  refine sl_alloc rfl rfl zd_24 (fun b4 => ?_)
  refine sl_stp rfl rfl rfl rfl sz_24 rfl rfl rfl (by repeat constructor) (Nat.le_of_ble_eq_true rfl) ?_
  refine sl_as rfl rfl rfl ?_
  refine sl_nil ?_
  refine sw_seq ?_
  refine sl_region ?_
  refine sl_bd rfl rfl (.cons rfl (.cons rfl .nil)) bi_55 zd_55 rfl ?_
  refine sl_bsn ([almV ⟨1, 2⟩]) rfl rfl (.cons rfl .nil) u_30 sz_55 zs_55 (by decide) rfl rfl rfl (SzI.get (by repeat constructor)) ?_
  refine sl_bd rfl rfl (.cons rfl (.cons rfl .nil)) bi_32 zd_32 rfl ?_
  refine sl_callf rfl rfl cal_31 (qreply_ok kRep (.blk b4 (rowOf (reqV noReq)) :: .blk b2 (rowOf (reqV kReq)) :: σ) kRep_ok (by decide) (by decide)) ?_ ?_ ?_ (fun _ _ h => h.elim)
  · repeat constructor
  · repeat constructor
  rintro _ _ ⟨rfl, hσ⟩
  have hσ2 := hσ.symm
  subst hσ2
  refine sl_callf rfl rfl cal_11 (qopenrep_ok (encRep kRep) (.blk b4 (rowOf (reqV noReq)) :: .blk b2 (rowOf (reqV kReq)) :: σ) (Nat.le_trans (encRep_len kRep_ok (c := 0) (by decide) (by decide) (by decide)) (by decide))) ?_ ?_ ?_ (fun _ _ h => h.elim)
  · repeat constructor
  · repeat constructor
  rintro _ _ ⟨rfl, hσ⟩
  have hσ2 := hσ.symm
  subst hσ2
  rw [kRep_open]
  refine sl_mv rfl rfl rfl ?_
  refine sl_extract rfl rfl rfl rfl ?_
  refine sl_extract rfl rfl rfl rfl ?_
  refine sl_alloc rfl rfl zd_32 (fun b6 => ?_)
  refine sl_stp rfl rfl rfl rfl sz_32 rfl rfl rfl (by repeat constructor) (Nat.le_of_ble_eq_true rfl) ?_
  refine sl_as rfl rfl rfl ?_
  refine sl_nil ?_
  refine sw_seq ?_
  refine sl_region ?_
  refine sl_mv rfl rfl rfl ?_
  refine sl_bytes_str rfl rfl rfl u_28 u_5 u_9 ?_
  refine sl_str rfl rfl rfl rfl rfl ?_
  refine sl_set 29 (.val (.bool true)) (congrArg (fun l => D.val (.bool (l == [4, 1, 102, 0, 0]))) kReq_bytes) ?_
  refine sl_mv rfl rfl rfl ?_
  refine sl_guard_y rfl rfl rfl (rfl) ?_
  refine sl_mv rfl rfl rfl ?_
  refine sl_guard_y rfl rfl rfl (rfl) ?_
  refine sl_bin rfl rfl rfl rfl rfl ?_
  refine sl_pk_t rfl rfl rfl (rfl) rfl ?_
  refine sl_mv rfl rfl rfl ?_
  refine sl_guard_y rfl rfl rfl (rfl) ?_
  first
    | refine sl_fieldAddr_ptr rfl rfl rfl fo_24_0 ?_
    | refine sl_fieldAddr_rp rfl rfl rfl fo_24_0 ?_
    | refine sl_fieldAddr_ref rfl rfl rfl fo_24_0 ?_
  refine sl_guard_y rfl rfl rfl (rfl) ?_
  first
    | refine sl_load_rp1 rfl rfl rfl ag_3 rfl ?_
    | refine sl_load_blk1 rfl rfl rfl ag_3 (by repeat constructor) rfl ?_
  refine sl_guard_y rfl rfl rfl (rfl) ?_
  refine sl_bin rfl rfl rfl rfl rfl ?_
  refine sl_pk_t rfl rfl rfl (rfl) rfl ?_
  refine sl_mv rfl rfl rfl ?_
  refine sl_guard_y rfl rfl rfl (rfl) ?_
  first
    | refine sl_fieldAddr_ptr rfl rfl rfl fo_24_1 ?_
    | refine sl_fieldAddr_rp rfl rfl rfl fo_24_1 ?_
    | refine sl_fieldAddr_ref rfl rfl rfl fo_24_1 ?_
  refine sl_guard_y rfl rfl rfl (rfl) ?_
  first
    | refine sl_load_rp1 rfl rfl rfl ag_9 rfl ?_
    | refine sl_load_blk1 rfl rfl rfl ag_9 (by repeat constructor) rfl ?_
  refine sl_guard_y rfl rfl rfl (rfl) ?_
  refine sl_str rfl rfl rfl rfl rfl ?_
  refine sl_pk_t rfl rfl rfl (rfl) rfl ?_
  refine sl_mv rfl rfl rfl ?_
  refine sl_guard_y rfl rfl rfl (rfl) ?_
  refine sl_mv rfl rfl rfl ?_
  refine sl_guard_y rfl rfl rfl (rfl) ?_
  refine sl_bin rfl rfl rfl rfl rfl ?_
  refine sl_pk_t rfl rfl rfl (rfl) rfl ?_
  refine sl_mv rfl rfl rfl ?_
  refine sl_guard_y rfl rfl rfl (rfl) ?_
  refine sl_mv rfl rfl rfl ?_
  refine sl_guard_y rfl rfl rfl (rfl) ?_
  refine sl_bin rfl rfl rfl rfl rfl ?_
  refine sl_pk_t rfl rfl rfl (rfl) rfl ?_
  refine sl_mv rfl rfl rfl ?_
  refine sl_guard_y rfl rfl rfl (rfl) ?_
  first
    | refine sl_fieldAddr_ptr rfl rfl rfl fo_32_3 ?_
    | refine sl_fieldAddr_rp rfl rfl rfl fo_32_3 ?_
    | refine sl_fieldAddr_ref rfl rfl rfl fo_32_3 ?_
  refine sl_guard_y rfl rfl rfl (rfl) ?_
  first
    | refine sl_load_rp1 rfl rfl rfl ag_30 rfl ?_
    | refine sl_load_blk1 rfl rfl rfl ag_30 (by repeat constructor) rfl ?_
  refine sl_guard_y rfl rfl rfl (rfl) ?_
  first
    | refine sl_len rfl rfl rfl ⟨_, u_30⟩ ?_
    | refine sl_len_sl rfl rfl rfl ⟨_, u_30⟩ ?_
    | refine sl_len_w _ rfl rfl rfl ⟨_, u_30⟩ ?_
  refine sl_guard_y rfl rfl rfl (rfl) ?_
  refine sl_bin rfl rfl rfl rfl rfl ?_
  refine sl_pk_t rfl rfl rfl (rfl) rfl ?_
  refine sl_as rfl rfl rfl ?_
  refine sl_nil ?_
  refine sw_ret ⟨rfl, _, _, res_one rfl rfl, ?_, ⟨rfl, rfl⟩⟩
  repeat constructor

end Go.Proofs.Ytipacoopapjdpaa

/- Walks: printed by a program of this session out of its script ReqJ. -/
namespace Go.Proofs.Ytipacoopapjdpaa
set_option linter.unusedVariables false
set_option linter.unusedSimpArgs false
set_option maxRecDepth 4000
set_option maxHeartbeats 4000000
open Go Go.RowKit SL


theorem i32_0 : isI32 0 := by decide
def kindRep (m : Nat) (n : Int) : Rep := ⟨m, 0, 0, [], [], n⟩
def kindReq (m : Nat) (n : Int) : Req := ⟨m, [], [], n⟩
theorem kindReq_ok {m : Nat} {n : Int} (hm : m < 300) (hn : isI64 n) : ReqOk (kindReq m n) := ⟨by unfold isI64 kindReq; simp; omega, hn⟩
theorem kindRep_ok {m : Nat} {n : Int} (hm : m < 300) (hn : isI64 n) : RepOk (kindRep m n) := ⟨by unfold isI64 kindRep; simp; omega, by unfold isI64 kindRep; simp, by unfold isI64 kindRep; simp, hn, fun a h => by cases h⟩
theorem kindReq_err {m : Nat} {n : Int} (hm : m < 300) (hn : isI64 n) : ((errOf (openReq (encReq (kindReq m n))) == 0) != decide (isI32 n ∧ 1 ≤ m ∧ m ≤ 7)) = false := by
  rw [errOf_zero, openReq_enc (kindReq_ok hm hn) (Nat.le_of_ble_eq_true rfl) (Nat.le_of_ble_eq_true rfl)]
  by_cases hg : isI32 n ∧ 1 ≤ m ∧ m ≤ 7
  · rw [decide_eq_true hg, if_pos ⟨hg.1, by have := hg.2.1; simp only [kindReq]; omega, by have := hg.2.2; simp only [kindReq]; omega⟩]; rfl
  · rw [decide_eq_false hg, if_neg (fun h => hg ⟨h.1, by have := h.2.1; simp only [kindReq] at this; omega, by have := h.2.2; simp only [kindReq] at this; omega⟩)]; rfl
theorem kindReq_same {m : Nat} {n : Int} (hm : m < 300) (hn : isI64 n) (hg : isI32 n ∧ 1 ≤ m ∧ m ≤ 7) : (openReq (encReq (kindReq m n))).getD noReq = kindReq m n := by
  rw [openReq_enc (kindReq_ok hm hn) (Nat.le_of_ble_eq_true rfl) (Nat.le_of_ble_eq_true rfl), if_pos ⟨hg.1, by have := hg.2.1; simp only [kindReq]; omega, by have := hg.2.2; simp only [kindReq]; omega⟩]; rfl
theorem kindRep_err {m : Nat} {n : Int} (hm : m < 300) (hn : isI64 n) : ((errOf (openRep (encRep (kindRep m n))) == 0) != decide (isI32 n ∧ m ≤ 5)) = false := by
  rw [errOf_zero, openRep_enc (kindRep_ok hm hn) (Nat.le_of_ble_eq_true rfl) (Nat.le_of_ble_eq_true rfl)]
  by_cases hg : isI32 n ∧ m ≤ 5
  · rw [decide_eq_true hg, if_pos ⟨⟨i32_0, i32_0, (fun a h => by cases h), hg.1⟩, by have := hg.2; simp only [kindRep]; omega⟩]; rfl
  · rw [decide_eq_false hg, if_neg (fun h => hg ⟨h.1.2.2.2, by have := h.2; simp only [kindRep] at this; omega⟩)]; rfl
theorem kindRep_same {m : Nat} {n : Int} (hm : m < 300) (hn : isI64 n) (hg : isI32 n ∧ m ≤ 5) : (openRep (encRep (kindRep m n))).getD noRep = kindRep m n := by
  rw [openRep_enc (kindRep_ok hm hn) (Nat.le_of_ble_eq_true rfl) (Nat.le_of_ble_eq_true rfl), if_pos ⟨⟨i32_0, i32_0, (fun a h => by cases h), hg.1⟩, by have := hg.2; simp only [kindRep]; omega⟩]; rfl


/-- ReqKinds. -/
theorem reqKinds_ok (k n : Int) (hn : isI64 n) : FSpec Try.prog 3 [.val (i64V k), .val (i64V n)] [] (fun d σ' => d = .val (.bool true) ∧ σ' = []) := by
  obtain ⟨m, hmd⟩ : ∃ m : Nat, m = (k.tmod ((300 : Nat) : Int)).natAbs := ⟨_, rfl⟩
  have hm : m < 300 := by rw [hmd]; exact tmod_abs (by decide)
  have ha : k.tmod 300 = k.tmod ((300 : Nat) : Int) := rfl
  refine spec_of_sw Try.func3 rfl ?_
  refine sw_seq ?_
  refine sl_region ?_
  refine sl_as rfl rfl rfl ?_
  refine sl_nil ?_
  refine sw_seq ?_
  refine sw_seq ?_
  refine sl_region ?_
  refine sl_callf rfl rfl cal_8 (known24_ok []) ?_ ?_ ?_ (fun _ _ h => h.elim)
  · repeat constructor
  · repeat constructor
  rintro _ _ ⟨rfl, rfl⟩
  refine sl_not rfl rfl rfl ?_
  refine sl_nil ?_
  refine sw_false rfl (rfl) ?_
  refine sw_skip ?_
  refine sw_seq ?_
  refine sl_region ?_
  refine sl_mv rfl rfl rfl ?_
  refine sl_rem rfl rfl rfl rfl (by decide) ?_
  refine sl_as rfl rfl rfl ?_
  refine sl_nil ?_
  refine sw_seq ?_
  refine sw_seq ?_
  refine sl_region ?_
  refine sl_mv rfl rfl rfl ?_
  refine sl_bin rfl rfl rfl rfl rfl ?_
  refine sl_nil ?_
  refine sw_cutk ⟨96, (.cons 0 (.val (.int .i64 (m : Int))) (.cons 1 (.val (i64V n)) .nil))⟩ ([]) (True) ?_ ?_
  · refine sw_cond rfl (fun hc => ?_) (fun hc => ?_)
    · have hc1 := of_decide_eq_true hc
      refine sl_region ?_
      refine sl_mv rfl rfl rfl ?_
      refine sl_neg rfl rfl rfl ?_
      refine sl_set 19 (.val (.int .i64 (m : Int))) (congrArg (fun z => D.val (.int .i64 z)) (by rw [wrap_i64 (by omega) (by omega)]; omega)) ?_
      refine sl_as rfl rfl rfl ?_
      refine sl_nil ?_
      refine ⟨?_, ?_, rfl, trivial⟩
      · exact ⟨rfl, by repeat constructor⟩
      · repeat constructor
    have hc1 := of_decide_eq_false hc
    refine sw_set 0 (.val (.int .i64 (m : Int))) (congrArg (fun z => D.val (.int .i64 z)) (by omega)) ?_
    refine sw_skip ?_
    refine ⟨?_, ?_, rfl, trivial⟩
    · exact ⟨rfl, by repeat constructor⟩
    · repeat constructor
  intro _
  refine sw_seq ?_
  refine sl_region ?_
  refine sl_mv rfl rfl rfl ?_
  refine sl_mv rfl rfl rfl ?_
  refine sl_bd rfl rfl (.cons rfl (.cons rfl .nil)) bi_24 zd_24 rfl ?_
  refine sl_callf rfl rfl cal_10 (dbytes_ok (kindReq m n) [] (kindReq_ok hm hn) (Nat.le_of_ble_eq_true rfl) (Nat.le_of_ble_eq_true rfl)) ?_ ?_ ?_ (fun _ _ h => h.elim)
  · repeat constructor
  · repeat constructor
  rintro _ _ ⟨v1, rfl, rfl⟩
  have hl1 := encReq_len (kindReq_ok hm hn) (c := 1000) (by decide) (Nat.le_of_ble_eq_true rfl) (Nat.le_of_ble_eq_true rfl)
  have hl2 : (encRep (kindRep m n)).length ≤ 1000 + 20 * 0 + 60 := encRep_len (kindRep_ok hm hn) (c := 1000) (by decide) (Nat.le_of_ble_eq_true rfl) (Nat.le_of_ble_eq_true rfl)
  refine sl_callf rfl rfl cal_9 (qopen_ok (encReq (kindReq m n)) [] (by omega)) ?_ ?_ ?_ (fun _ _ h => h.elim)
  · repeat constructor
  · repeat constructor
  rintro _ _ ⟨rfl, rfl⟩
  have e1 := kindReq_err hm hn
  have s1 := fun hg => kindReq_same hm hn hg
  obtain ⟨Q, hQ⟩ : ∃ Q, Q = openReq (encReq (kindReq m n)) := ⟨_, rfl⟩
  rw [← hQ] at e1 s1 ⊢
  refine sl_mv rfl rfl rfl ?_
  refine sl_extract rfl rfl rfl rfl ?_
  refine sl_extract rfl rfl rfl rfl ?_
  refine sl_alloc rfl rfl zd_24 (fun b5 => ?_)
  refine sl_stp rfl rfl rfl rfl sz_24 rfl rfl rfl (by repeat constructor) (Nat.le_of_ble_eq_true rfl) ?_
  refine sl_as rfl rfl rfl ?_
  refine sl_nil ?_
  refine sw_seq ?_
  refine sl_region ?_
  refine sl_mv rfl rfl rfl ?_
  refine sl_mv rfl rfl rfl ?_
  refine sl_bd rfl rfl (.cons rfl (.cons rfl .nil)) bi_32 zd_32 rfl ?_
  refine sl_callf rfl rfl cal_12 (dreply_ok (kindRep m n) (.blk b5 (rowOf (reqV (Q.getD noReq))) :: []) (kindRep_ok hm hn) (Nat.le_of_ble_eq_true rfl) (Nat.le_of_ble_eq_true rfl)) ?_ ?_ ?_ (fun _ _ h => h.elim)
  · repeat constructor
  · repeat constructor
  rintro _ _ ⟨v2, rfl, rfl⟩
  refine sl_callf rfl rfl cal_11 (qopenrep_ok (encRep (kindRep m n)) (.blk b5 (rowOf (reqV (Q.getD noReq))) :: []) (by omega)) ?_ ?_ ?_ (fun _ _ h => h.elim)
  · repeat constructor
  · repeat constructor
  rintro _ _ ⟨rfl, rfl⟩
  have e2 := kindRep_err hm hn
  have s2 := fun hg => kindRep_same hm hn hg
  obtain ⟨P, hP⟩ : ∃ P, P = openRep (encRep (kindRep m n)) := ⟨_, rfl⟩
  rw [← hP] at e2 s2 ⊢
  refine sl_mv rfl rfl rfl ?_
  refine sl_extract rfl rfl rfl rfl ?_
  refine sl_extract rfl rfl rfl rfl ?_
  refine sl_alloc rfl rfl zd_32 (fun b7 => ?_)
  refine sl_stp rfl rfl rfl rfl sz_32 rfl rfl rfl (by repeat constructor) (Nat.le_of_ble_eq_true rfl) ?_
  refine sl_as rfl rfl rfl ?_
  refine sl_nil ?_
  refine sw_seq ?_
  refine sw_cutk ⟨96, (.cons 0 (.val (.int .i64 (m : Int))) (.cons 1 (.val (i64V n)) (.cons 5 (.ptr b5 0) (.cons 6 (.val (.int .i64 (errOf Q))) (.cons 7 (.ptr b7 0) (.cons 8 (.val (.int .i64 (errOf P))) (.cons 9 (.val (.bool (decide (isI32 n)))) .nil)))))))⟩ (.blk b7 (rowOf (repV (P.getD noRep))) :: .blk b5 (rowOf (reqV (Q.getD noReq))) :: []) (True) ?_ ?_
  · refine sl_region ?_
    refine sl_mv rfl rfl rfl ?_
    refine sl_bin rfl rfl rfl rfl rfl ?_
    refine sl_mv rfl rfl rfl ?_
    refine sl_case_at 38 rfl (fun h1 => ?_) (fun h1 => ?_)
    · refine sl_guard_y rfl rfl rfl h1 ?_
      refine sl_mv rfl rfl rfl ?_
      refine sl_guard_y rfl rfl rfl h1 ?_
      refine sl_bin rfl rfl rfl rfl rfl ?_
      refine sl_pk_t rfl rfl rfl h1 rfl ?_
      refine sl_set 41 (.val (.bool (decide (isI32 n)))) (congrArg (fun b => D.val (.bool b)) (decide_eq_decide.mpr ⟨fun h => ⟨by have := of_decide_eq_true h1; omega, h⟩, fun h => h.2⟩)) ?_
      refine sl_as rfl rfl rfl ?_
      refine sl_nil ?_
      refine ⟨?_, ?_, rfl, trivial⟩
      · exact ⟨rfl, by repeat constructor⟩
      · repeat constructor
    refine sl_guard_n rfl rfl rfl h1 ?_
    refine sl_guard_n rfl rfl rfl h1 ?_
    refine sl_pk_f rfl rfl rfl h1 rfl ?_
    refine sl_set 41 (.val (.bool (decide (isI32 n)))) (dec_ff (fun h => by have := of_decide_eq_false h1; have := h.1; omega)) ?_
    refine sl_as rfl rfl rfl ?_
    refine sl_nil ?_
    refine ⟨?_, ?_, rfl, trivial⟩
    · exact ⟨rfl, by repeat constructor⟩
    · repeat constructor
  intro _
  refine sw_seq ?_
  refine sw_cutk ⟨96, (.cons 0 (.val (.int .i64 (m : Int))) (.cons 1 (.val (i64V n)) (.cons 5 (.ptr b5 0) (.cons 6 (.val (.int .i64 (errOf Q))) (.cons 7 (.ptr b7 0) (.cons 8 (.val (.int .i64 (errOf P))) (.cons 10 (.val (.bool (decide (isI32 n ∧ 1 ≤ m ∧ m ≤ 7)))) (.cons 11 (.val (.bool (decide (isI32 n ∧ m ≤ 5)))) .nil))))))))⟩ (.blk b7 (rowOf (repV (P.getD noRep))) :: .blk b5 (rowOf (reqV (Q.getD noReq))) :: []) (True) ?_ ?_
  · refine sl_region ?_
    refine sl_mv rfl rfl rfl ?_
    refine sl_bin rfl rfl rfl rfl rfl ?_
    refine sl_mv rfl rfl rfl ?_
    refine sl_case_at 44 rfl (fun h1 => ?_) (fun h1 => ?_)
    · have h1' := of_decide_eq_true h1
      refine sl_guard_y rfl rfl rfl h1 ?_
      refine sl_mv rfl rfl rfl ?_
      refine sl_guard_y rfl rfl rfl h1 ?_
      refine sl_bin rfl rfl rfl rfl rfl ?_
      refine sl_pk_t rfl rfl rfl h1 rfl ?_
      refine sl_mv rfl rfl rfl ?_
      refine sl_case_at 48 rfl (fun h2 => ?_) (fun h2 => ?_)
      · have h2' := of_decide_eq_true h2
        refine sl_guard_y rfl rfl rfl h2 ?_
        refine sl_mv rfl rfl rfl ?_
        refine sl_pk_t rfl rfl rfl h2 rfl ?_
        refine sl_set 50 (.val (.bool (decide (isI32 n ∧ 1 ≤ m ∧ m ≤ 7)))) (congrArg (fun b => D.val (.bool b)) (decide_eq_decide.mpr ⟨fun h => ⟨h, by omega, by omega⟩, fun h => h.1⟩)) ?_
        refine sl_mv rfl rfl rfl ?_
        refine sl_bin rfl rfl rfl rfl rfl ?_
        refine sl_mv rfl rfl rfl ?_
        refine sl_case_at 53 rfl (fun h3 => ?_) (fun h3 => ?_)
        · have h3' := of_decide_eq_true h3
          refine sl_guard_y rfl rfl rfl h3 ?_
          refine sl_mv rfl rfl rfl ?_
          refine sl_pk_t rfl rfl rfl h3 rfl ?_
          refine sl_set 55 (.val (.bool (decide (isI32 n ∧ m ≤ 5)))) (congrArg (fun b => D.val (.bool b)) (decide_eq_decide.mpr ⟨fun h => ⟨h, by omega⟩, fun h => h.1⟩)) ?_
          refine sl_as rfl rfl rfl ?_
          refine sl_as rfl rfl rfl ?_
          refine sl_nil ?_
          refine ⟨?_, ?_, rfl, trivial⟩
          · exact ⟨rfl, by repeat constructor⟩
          · repeat constructor
        have h3' := of_decide_eq_false h3
        refine sl_guard_n rfl rfl rfl h3 ?_
        refine sl_pk_f rfl rfl rfl h3 rfl ?_
        refine sl_set 55 (.val (.bool (decide (isI32 n ∧ m ≤ 5)))) (dec_ff (fun h => by have := h.2; omega)) ?_
        refine sl_as rfl rfl rfl ?_
        refine sl_as rfl rfl rfl ?_
        refine sl_nil ?_
        refine ⟨?_, ?_, rfl, trivial⟩
        · exact ⟨rfl, by repeat constructor⟩
        · repeat constructor
      have h2' := of_decide_eq_false h2
      refine sl_guard_n rfl rfl rfl h2 ?_
      refine sl_pk_f rfl rfl rfl h2 rfl ?_
      refine sl_set 50 (.val (.bool (decide (isI32 n ∧ 1 ≤ m ∧ m ≤ 7)))) (dec_ff (fun h => by have := h.2.2; omega)) ?_
      refine sl_mv rfl rfl rfl ?_
      refine sl_bin rfl rfl rfl rfl rfl ?_
      refine sl_mv rfl rfl rfl ?_
      refine sl_case_at 53 rfl (fun h3 => ?_) (fun h3 => ?_)
      · have h3' := of_decide_eq_true h3
        refine sl_guard_y rfl rfl rfl h3 ?_
        refine sl_mv rfl rfl rfl ?_
        refine sl_pk_t rfl rfl rfl h3 rfl ?_
        refine sl_set 55 (.val (.bool (decide (isI32 n ∧ m ≤ 5)))) (congrArg (fun b => D.val (.bool b)) (decide_eq_decide.mpr ⟨fun h => ⟨h, by omega⟩, fun h => h.1⟩)) ?_
        refine sl_as rfl rfl rfl ?_
        refine sl_as rfl rfl rfl ?_
        refine sl_nil ?_
        refine ⟨?_, ?_, rfl, trivial⟩
        · exact ⟨rfl, by repeat constructor⟩
        · repeat constructor
      have h3' := of_decide_eq_false h3
      refine sl_guard_n rfl rfl rfl h3 ?_
      refine sl_pk_f rfl rfl rfl h3 rfl ?_
      refine sl_set 55 (.val (.bool (decide (isI32 n ∧ m ≤ 5)))) (dec_ff (fun h => by have := h.2; omega)) ?_
      refine sl_as rfl rfl rfl ?_
      refine sl_as rfl rfl rfl ?_
      refine sl_nil ?_
      refine ⟨?_, ?_, rfl, trivial⟩
      · exact ⟨rfl, by repeat constructor⟩
      · repeat constructor
    have h1' := of_decide_eq_false h1
    refine sl_guard_n rfl rfl rfl h1 ?_
    refine sl_guard_n rfl rfl rfl h1 ?_
    refine sl_pk_f rfl rfl rfl h1 rfl ?_
    refine sl_mv rfl rfl rfl ?_
    refine sl_guard_n rfl rfl rfl (rfl) ?_
    refine sl_pk_f rfl rfl rfl (rfl) rfl ?_
    refine sl_set 50 (.val (.bool (decide (isI32 n ∧ 1 ≤ m ∧ m ≤ 7)))) (dec_ff (fun h => by have := h.2.1; omega)) ?_
    refine sl_mv rfl rfl rfl ?_
    refine sl_bin rfl rfl rfl rfl rfl ?_
    refine sl_mv rfl rfl rfl ?_
    refine sl_case_at 53 rfl (fun h3 => ?_) (fun h3 => ?_)
    · have h3' := of_decide_eq_true h3
      refine sl_guard_y rfl rfl rfl h3 ?_
      refine sl_mv rfl rfl rfl ?_
      refine sl_pk_t rfl rfl rfl h3 rfl ?_
      refine sl_set 55 (.val (.bool (decide (isI32 n ∧ m ≤ 5)))) (congrArg (fun b => D.val (.bool b)) (decide_eq_decide.mpr ⟨fun h => ⟨h, by omega⟩, fun h => h.1⟩)) ?_
      refine sl_as rfl rfl rfl ?_
      refine sl_as rfl rfl rfl ?_
      refine sl_nil ?_
      refine ⟨?_, ?_, rfl, trivial⟩
      · exact ⟨rfl, by repeat constructor⟩
      · repeat constructor
    have h3' := of_decide_eq_false h3
    refine sl_guard_n rfl rfl rfl h3 ?_
    refine sl_pk_f rfl rfl rfl h3 rfl ?_
    refine sl_set 55 (.val (.bool (decide (isI32 n ∧ m ≤ 5)))) (dec_ff (fun h => by have := h.2; omega)) ?_
    refine sl_as rfl rfl rfl ?_
    refine sl_as rfl rfl rfl ?_
    refine sl_nil ?_
    refine ⟨?_, ?_, rfl, trivial⟩
    · exact ⟨rfl, by repeat constructor⟩
    · repeat constructor
  intro _
  refine sw_seq ?_
  refine sw_seq ?_
  refine sl_region ?_
  refine sl_mv rfl rfl rfl ?_
  refine sl_bin rfl rfl rfl rfl rfl ?_
  refine sl_mv rfl rfl rfl ?_
  refine sl_bool_ne rfl rfl rfl rfl u_4 ?_
  refine sl_set 59 (.val (.bool false)) (congrArg (fun b => D.val (.bool b)) e1) ?_
  refine sl_mv rfl rfl rfl ?_
  refine sl_guard_y rfl rfl rfl (rfl) ?_
  refine sl_mv rfl rfl rfl ?_
  refine sl_guard_y rfl rfl rfl (rfl) ?_
  refine sl_bin rfl rfl rfl rfl rfl ?_
  refine sl_guard_y rfl rfl rfl (rfl) ?_
  refine sl_mv rfl rfl rfl ?_
  refine sl_guard_y rfl rfl rfl (rfl) ?_
  refine sl_bool_ne rfl rfl rfl rfl u_4 ?_
  refine sl_set 64 (.val (.bool false)) (congrArg (fun b => D.val (.bool b)) e2) ?_
  refine sl_pk_f rfl rfl rfl (rfl) rfl ?_
  refine sl_nil ?_
  refine sw_false rfl (rfl) ?_
  refine sw_skip ?_
  refine sw_seq ?_
  refine sl_region ?_
  refine sl_mv rfl rfl rfl ?_
  refine sl_not rfl rfl rfl ?_
  refine sl_mv rfl rfl rfl ?_
  refine sl_case_at 68 rfl (fun hA => ?_) (fun hA => ?_)
  · refine sl_guard_n rfl rfl rfl hA ?_
    refine sl_guard_n rfl rfl rfl hA ?_
    refine sl_guard_n rfl rfl rfl hA ?_
    refine sl_guard_n rfl rfl rfl hA ?_
    refine sl_guard_n rfl rfl rfl hA ?_
    refine sl_guard_u rfl rfl rfl ?_
    refine sl_guard_u rfl rfl rfl ?_
    refine sl_guard_u rfl rfl rfl ?_
    refine sl_guard_u rfl rfl rfl ?_
    refine sl_guard_n rfl rfl rfl hA ?_
    refine sl_pk_t rfl rfl rfl hA rfl ?_
    refine sl_mv rfl rfl rfl ?_
    refine sl_guard_y rfl rfl rfl (rfl) ?_
    refine sl_mv rfl rfl rfl ?_
    refine sl_guard_y rfl rfl rfl (rfl) ?_
    refine sl_not rfl rfl rfl ?_
    refine sl_guard_y rfl rfl rfl (rfl) ?_
    refine sl_mv rfl rfl rfl ?_
    refine sl_case_at 83 rfl (fun hB => ?_) (fun hB => ?_)
    · refine sl_guard_n rfl rfl rfl hB ?_
      refine sl_guard_n rfl rfl rfl hB ?_
      refine sl_guard_n rfl rfl rfl hB ?_
      refine sl_guard_n rfl rfl rfl hB ?_
      refine sl_guard_n rfl rfl rfl hB ?_
      refine sl_guard_u rfl rfl rfl ?_
      refine sl_guard_u rfl rfl rfl ?_
      refine sl_guard_u rfl rfl rfl ?_
      refine sl_guard_u rfl rfl rfl ?_
      refine sl_guard_n rfl rfl rfl hB ?_
      refine sl_guard_y rfl rfl rfl (rfl) ?_
      refine sl_pk_t rfl rfl rfl hB rfl ?_
      refine sl_pk_t rfl rfl rfl (rfl) rfl ?_
      refine sl_as rfl rfl rfl ?_
      refine sl_nil ?_
      refine sw_ret ⟨rfl, _, _, res_one rfl rfl, ?_, ⟨rfl, rfl⟩⟩
      repeat constructor
    have hB' : isI32 n ∧ m ≤ 5 := by simpa using hB
    have s2 := s2 hB'
    rw [s2]
    refine sl_guard_y rfl rfl rfl hB ?_
    first
      | refine sl_fieldAddr_ptr rfl rfl rfl fo_32_0 ?_
      | refine sl_fieldAddr_rp rfl rfl rfl fo_32_0 ?_
      | refine sl_fieldAddr_ref rfl rfl rfl fo_32_0 ?_
    refine sl_guard_y rfl rfl rfl hB ?_
    first
      | refine sl_load_rp1 rfl rfl rfl ag_3 rfl ?_
      | refine sl_load_blk1 rfl rfl rfl ag_3 (by repeat constructor) rfl ?_
    refine sl_guard_y rfl rfl rfl hB ?_
    refine sl_mv rfl rfl rfl ?_
    refine sl_guard_y rfl rfl rfl hB ?_
    refine sl_bin rfl rfl rfl rfl rfl ?_
    refine sl_guard_y rfl rfl rfl hB ?_
    refine sl_mv rfl rfl rfl ?_
    refine sl_guard_y rfl rfl rfl ((beq_self_eq_true (m : Int))) ?_
    first
      | refine sl_fieldAddr_ptr rfl rfl rfl fo_32_5 ?_
      | refine sl_fieldAddr_rp rfl rfl rfl fo_32_5 ?_
      | refine sl_fieldAddr_ref rfl rfl rfl fo_32_5 ?_
    refine sl_guard_y rfl rfl rfl ((beq_self_eq_true (m : Int))) ?_
    first
      | refine sl_load_rp1 rfl rfl rfl ag_3 rfl ?_
      | refine sl_load_blk1 rfl rfl rfl ag_3 (by repeat constructor) rfl ?_
    refine sl_guard_y rfl rfl rfl ((beq_self_eq_true (m : Int))) ?_
    refine sl_mv rfl rfl rfl ?_
    refine sl_guard_y rfl rfl rfl ((beq_self_eq_true (m : Int))) ?_
    refine sl_bin rfl rfl rfl rfl rfl ?_
    refine sl_guard_y rfl rfl rfl hB ?_
    refine sl_pk_t rfl rfl rfl ((beq_self_eq_true (m : Int))) rfl ?_
    refine sl_guard_y rfl rfl rfl (rfl) ?_
    refine sl_pk_f rfl rfl rfl hB rfl ?_
    refine sl_pk_t rfl rfl rfl (rfl) rfl ?_
    refine sl_as rfl rfl rfl ?_
    refine sl_nil ?_
    refine sw_ret ⟨rfl, _, _, res_one rfl rfl, ?_, ⟨self_i64 n, rfl⟩⟩
    repeat constructor
  have hA' : isI32 n ∧ 1 ≤ m ∧ m ≤ 7 := by simpa using hA
  have s1 := s1 hA'
  rw [s1]
  refine sl_guard_y rfl rfl rfl hA ?_
  first
    | refine sl_fieldAddr_ptr rfl rfl rfl fo_24_0 ?_
    | refine sl_fieldAddr_rp rfl rfl rfl fo_24_0 ?_
    | refine sl_fieldAddr_ref rfl rfl rfl fo_24_0 ?_
  refine sl_guard_y rfl rfl rfl hA ?_
  first
    | refine sl_load_rp1 rfl rfl rfl ag_3 rfl ?_
    | refine sl_load_blk1 rfl rfl rfl ag_3 (by repeat constructor) rfl ?_
  refine sl_guard_y rfl rfl rfl hA ?_
  refine sl_mv rfl rfl rfl ?_
  refine sl_guard_y rfl rfl rfl hA ?_
  refine sl_bin rfl rfl rfl rfl rfl ?_
  refine sl_guard_y rfl rfl rfl hA ?_
  refine sl_mv rfl rfl rfl ?_
  refine sl_guard_y rfl rfl rfl ((beq_self_eq_true (m : Int))) ?_
  first
    | refine sl_fieldAddr_ptr rfl rfl rfl fo_24_3 ?_
    | refine sl_fieldAddr_rp rfl rfl rfl fo_24_3 ?_
    | refine sl_fieldAddr_ref rfl rfl rfl fo_24_3 ?_
  refine sl_guard_y rfl rfl rfl ((beq_self_eq_true (m : Int))) ?_
  first
    | refine sl_load_rp1 rfl rfl rfl ag_3 rfl ?_
    | refine sl_load_blk1 rfl rfl rfl ag_3 (by repeat constructor) rfl ?_
  refine sl_guard_y rfl rfl rfl ((beq_self_eq_true (m : Int))) ?_
  refine sl_mv rfl rfl rfl ?_
  refine sl_guard_y rfl rfl rfl ((beq_self_eq_true (m : Int))) ?_
  refine sl_bin rfl rfl rfl rfl rfl ?_
  refine sl_set 77 (.val (.bool true)) (self_i64 n) ?_
  refine sl_guard_y rfl rfl rfl hA ?_
  refine sl_pk_t rfl rfl rfl ((beq_self_eq_true (m : Int))) rfl ?_
  refine sl_pk_f rfl rfl rfl hA rfl ?_
  refine sl_mv rfl rfl rfl ?_
  refine sl_guard_y rfl rfl rfl (rfl) ?_
  refine sl_mv rfl rfl rfl ?_
  refine sl_guard_y rfl rfl rfl (rfl) ?_
  refine sl_not rfl rfl rfl ?_
  refine sl_guard_y rfl rfl rfl (rfl) ?_
  refine sl_mv rfl rfl rfl ?_
  refine sl_case_at 83 rfl (fun hB => ?_) (fun hB => ?_)
  · refine sl_guard_n rfl rfl rfl hB ?_
    refine sl_guard_n rfl rfl rfl hB ?_
    refine sl_guard_n rfl rfl rfl hB ?_
    refine sl_guard_n rfl rfl rfl hB ?_
    refine sl_guard_n rfl rfl rfl hB ?_
    refine sl_guard_u rfl rfl rfl ?_
    refine sl_guard_u rfl rfl rfl ?_
    refine sl_guard_u rfl rfl rfl ?_
    refine sl_guard_u rfl rfl rfl ?_
    refine sl_guard_n rfl rfl rfl hB ?_
    refine sl_guard_y rfl rfl rfl (rfl) ?_
    refine sl_pk_t rfl rfl rfl hB rfl ?_
    refine sl_pk_t rfl rfl rfl (rfl) rfl ?_
    refine sl_as rfl rfl rfl ?_
    refine sl_nil ?_
    refine sw_ret ⟨rfl, _, _, res_one rfl rfl, ?_, ⟨rfl, rfl⟩⟩
    repeat constructor
  have hB' : isI32 n ∧ m ≤ 5 := by simpa using hB
  have s2 := s2 hB'
  rw [s2]
  refine sl_guard_y rfl rfl rfl hB ?_
  first
    | refine sl_fieldAddr_ptr rfl rfl rfl fo_32_0 ?_
    | refine sl_fieldAddr_rp rfl rfl rfl fo_32_0 ?_
    | refine sl_fieldAddr_ref rfl rfl rfl fo_32_0 ?_
  refine sl_guard_y rfl rfl rfl hB ?_
  first
    | refine sl_load_rp1 rfl rfl rfl ag_3 rfl ?_
    | refine sl_load_blk1 rfl rfl rfl ag_3 (by repeat constructor) rfl ?_
  refine sl_guard_y rfl rfl rfl hB ?_
  refine sl_mv rfl rfl rfl ?_
  refine sl_guard_y rfl rfl rfl hB ?_
  refine sl_bin rfl rfl rfl rfl rfl ?_
  refine sl_guard_y rfl rfl rfl hB ?_
  refine sl_mv rfl rfl rfl ?_
  refine sl_guard_y rfl rfl rfl ((beq_self_eq_true (m : Int))) ?_
  first
    | refine sl_fieldAddr_ptr rfl rfl rfl fo_32_5 ?_
    | refine sl_fieldAddr_rp rfl rfl rfl fo_32_5 ?_
    | refine sl_fieldAddr_ref rfl rfl rfl fo_32_5 ?_
  refine sl_guard_y rfl rfl rfl ((beq_self_eq_true (m : Int))) ?_
  first
    | refine sl_load_rp1 rfl rfl rfl ag_3 rfl ?_
    | refine sl_load_blk1 rfl rfl rfl ag_3 (by repeat constructor) rfl ?_
  refine sl_guard_y rfl rfl rfl ((beq_self_eq_true (m : Int))) ?_
  refine sl_mv rfl rfl rfl ?_
  refine sl_guard_y rfl rfl rfl ((beq_self_eq_true (m : Int))) ?_
  refine sl_bin rfl rfl rfl rfl rfl ?_
  refine sl_guard_y rfl rfl rfl hB ?_
  refine sl_pk_t rfl rfl rfl ((beq_self_eq_true (m : Int))) rfl ?_
  refine sl_guard_y rfl rfl rfl (rfl) ?_
  refine sl_pk_f rfl rfl rfl hB rfl ?_
  refine sl_pk_t rfl rfl rfl (rfl) rfl ?_
  refine sl_as rfl rfl rfl ?_
  refine sl_nil ?_
  refine sw_ret ⟨rfl, _, _, res_one rfl rfl, ?_, ⟨self_i64 n, rfl⟩⟩
  repeat constructor

end Go.Proofs.Ytipacoopapjdpaa
