/- Walks: printed by a program of this session out of its script CodeM. -/
import Derived.Test.YtioechdfghglhaaSlT
import Derived.Test.YtioechdfghglhaaP9
import Derived.Test.YtioechdfghglhaaCodeL
namespace Go.Proofs.Ytioechdfghglhaa
set_option linter.unusedVariables false
set_option linter.unusedSimpArgs false
set_option maxRecDepth 4000
set_option maxHeartbeats 4000000
open Go Go.RowKit SL


theorem num9 {l : List UInt8} {i : Nat} (h : i < l.length) (h9 : i = 9) : D.val (.bool (decide ((l[i].toNat : Int) > 1))) = .val (.bool (numStop l i)) := by
  by_cases h1 : l[i].toNat ≤ 1
  · exact numStop_f (decide_eq_false (by omega)) ⟨h, .inr ⟨h9, by rw [getD_at h]; exact h1⟩⟩
  · exact numStop_t (decide_eq_true (by omega)) (fun hg => by have := hg.2; rw [getD_at h] at this; omega)

/-- The document's reader: a number. -/
theorem ynum_good (q : Nat) (l : List UInt8) (σ : List Chunk) (hl : l.length ≤ 100000000) :
    FSpec Try.prog 40 [.ptr q 0] (rd q l false :: σ) (fun d σ' => d = .val (u64V (rdOf (decN 0) 0 (some l)).1) ∧ ∃ c', Rdr q (rdOf (decN 0) 0 (some l)).2 c' ∧ σ' = c' :: σ) := by
  refine spec_of_sw Try.func40 rfl ?_
  refine sw_seq ?_
  refine sl_region ?_
  refine sl_as rfl rfl rfl ?_
  refine sl_nil ?_
  refine sw_seq ?_
  refine sl_region ?_
  refine sl_as rfl rfl rfl ?_
  refine sl_as rfl rfl rfl ?_
  refine sl_nil ?_
  refine sw_seq ?_
  refine sw_seq ?_
  refine sl_region ?_
  refine sl_as rfl rfl rfl ?_
  refine sl_nil ?_
  refine sw_block ?_
  refine sw_loopw (fun nX sX δX σX => ∃ (i n : Nat), (11 - i) = nX ∧ sX = ⟨77, (.cons 0 (.ptr q 0) (.cons 3 (.val (.int .u64 (n : Int))) (.cons 4 (.val (.int .i64 ((7 * i : Nat) : Int))) (.cons 5 (.val (.int .i64 (i : Int))) .nil))))⟩ ∧ δX = [] ∧ σX = rd q l false :: σ ∧ i ≤ 10 ∧ n < 128 ^ i ∧ decN 0 l = (decN i (l.drop i)).map fun p => (n + 128 ^ i * p.1, p.2)) ?_ ?_
  · refine ⟨_, _, _, ?_, ?_, 0, 0, rfl, rfl, rfl, rfl, Nat.zero_le _, by decide, start_dec l⟩
    · refine ⟨rfl, ?_⟩; repeat (first | exact WkL.nil | refine WkL.cons (Weak.refl _) ?_ | refine WkL.cons (Weak.toV rfl) ?_ | refine WkL.cons (Weak.ref _) ?_ | refine WkL.cons (Weak.rp_agg _) ?_)
    · repeat (first | exact Sub.refl _ | exact Sub.none _ | refine Sub.p0 ?_ | refine Sub.p1 ?_ | refine Sub.p2 ?_ | refine Sub.p3 ?_ | refine Sub.p4 ?_ | refine Sub.p5 ?_ | refine Sub.p6 ?_ | refine Sub.drop ?_)
  · rintro nX sX δX σX ⟨i, n, rfl, rfl, rfl, rfl, hi, hn, hd⟩
    refine sw_seq ?_
    refine sw_seq ?_
    refine sl_region ?_
    refine sl_mv rfl rfl rfl ?_
    refine sl_nc rfl rfl rfl rfl ?_
    first
      | refine sl_fieldAddr_ptr rfl rfl rfl fo_80_1 ?_
      | refine sl_fieldAddr_rp rfl rfl rfl fo_80_1 ?_
      | refine sl_fieldAddr_ref rfl rfl rfl fo_80_1 ?_
    first
      | refine sl_load_rp1 rfl rfl rfl ag_4 rfl ?_
      | refine sl_load_blk1 rfl rfl rfl ag_4 (by first | exact List.Mem.head _ | exact List.Mem.tail _ (List.Mem.head _) | exact List.Mem.tail _ (List.Mem.tail _ (List.Mem.head _)) | exact List.Mem.tail _ (List.Mem.tail _ (List.Mem.tail _ (List.Mem.head _))) | exact List.Mem.tail _ (List.Mem.tail _ (List.Mem.tail _ (List.Mem.tail _ (List.Mem.head _)))) | exact List.Mem.tail _ (List.Mem.tail _ (List.Mem.tail _ (List.Mem.tail _ (List.Mem.tail _ (List.Mem.head _)))))) rfl ?_
    refine sl_not rfl rfl rfl ?_
    refine sl_nil ?_
    refine sw_true rfl (rfl) ?_
    refine sw_skip ?_
    refine sw_seq ?_
    refine sw_block ?_
    refine sw_seq ?_
    refine sw_seq ?_
    refine sw_cutk ⟨77, (.cons 0 (.ptr q 0) (.cons 3 (.val (.int .u64 (n : Int))) (.cons 4 (.val (.int .i64 ((7 * i : Nat) : Int))) (.cons 5 (.val (.int .i64 (i : Int))) (.cons 38 (.val (.bool (numStop l i))) .nil)))))⟩ (rd q l false :: σ) (True) ?_ ?_
    · refine sl_region ?_
      refine sl_mv rfl rfl rfl ?_
      refine sl_mv rfl rfl rfl ?_
      refine sl_nc rfl rfl rfl rfl ?_
      first
        | refine sl_fieldAddr_ptr rfl rfl rfl fo_80_0 ?_
        | refine sl_fieldAddr_rp rfl rfl rfl fo_80_0 ?_
        | refine sl_fieldAddr_ref rfl rfl rfl fo_80_0 ?_
      first
        | refine sl_load_rp1 rfl rfl rfl ag_26 rfl ?_
        | refine sl_load_blk1 rfl rfl rfl ag_26 (by first | exact List.Mem.head _ | exact List.Mem.tail _ (List.Mem.head _) | exact List.Mem.tail _ (List.Mem.tail _ (List.Mem.head _)) | exact List.Mem.tail _ (List.Mem.tail _ (List.Mem.tail _ (List.Mem.head _))) | exact List.Mem.tail _ (List.Mem.tail _ (List.Mem.tail _ (List.Mem.tail _ (List.Mem.head _)))) | exact List.Mem.tail _ (List.Mem.tail _ (List.Mem.tail _ (List.Mem.tail _ (List.Mem.tail _ (List.Mem.head _)))))) rfl ?_
      first
        | refine sl_len rfl rfl rfl ⟨_, u_26⟩ ?_
        | refine sl_len_sl rfl rfl rfl ⟨_, u_26⟩ ?_
      refine sl_bin rfl rfl rfl rfl rfl ?_
      refine sl_mv rfl rfl rfl ?_
      refine sl_case_at 21 rfl (fun ha => ?_) (fun ha => ?_)
      · refine sl_guard_n rfl rfl rfl ha ?_
        refine sl_guard_n rfl rfl rfl ha ?_
        refine sl_pk_t rfl rfl rfl ha rfl ?_
        refine sl_mv rfl rfl rfl ?_
        refine sl_guard_n rfl rfl rfl (rfl) ?_
        refine sl_guard_n rfl rfl rfl (rfl) ?_
        refine sl_guard_n rfl rfl rfl (rfl) ?_
        refine sl_guard_u rfl rfl rfl ?_
        refine sl_guard_u rfl rfl rfl ?_
        refine sl_guard_u rfl rfl rfl ?_
        refine sl_guard_u rfl rfl rfl ?_
        refine sl_guard_u rfl rfl rfl ?_
        refine sl_guard_u rfl rfl rfl ?_
        refine sl_guard_u rfl rfl rfl ?_
        refine sl_guard_u rfl rfl rfl ?_
        refine sl_guard_n rfl rfl rfl (rfl) ?_
        refine sl_pk_t rfl rfl rfl (rfl) rfl ?_
        refine sl_set 38 (.val (.bool (numStop l i))) (numStop_t rfl (by intro h; have := of_decide_eq_true ha; simp only [List.length_map] at this; have := h.1; omega)) ?_
        refine sl_nil ?_
        refine ⟨?_, ?_, rfl, trivial⟩
        · refine ⟨rfl, ?_⟩; repeat (first | exact WkL.nil | refine WkL.cons (Weak.refl _) ?_ | refine WkL.cons (Weak.toV rfl) ?_ | refine WkL.cons (Weak.ref _) ?_ | refine WkL.cons (Weak.rp_agg _) ?_)
        · repeat (first | exact Sub.refl _ | exact Sub.none _ | refine Sub.p0 ?_ | refine Sub.p1 ?_ | refine Sub.p2 ?_ | refine Sub.p3 ?_ | refine Sub.p4 ?_ | refine Sub.p5 ?_ | refine Sub.p6 ?_ | refine Sub.drop ?_)
      · have ha1 : i < l.length := by have := of_decide_eq_false ha; simp only [List.length_map] at this; omega
        refine sl_guard_y rfl rfl rfl ha ?_
        refine sl_mv rfl rfl rfl ?_
        refine sl_guard_y rfl rfl rfl ha ?_
        refine sl_bin rfl rfl rfl rfl rfl ?_
        refine sl_pk_f rfl rfl rfl ha rfl ?_
        refine sl_mv rfl rfl rfl ?_
        refine sl_case_at 25 rfl (fun hb => ?_) (fun hb => ?_)
        · refine sl_guard_n rfl rfl rfl hb ?_
          refine sl_guard_n rfl rfl rfl hb ?_
          refine sl_guard_n rfl rfl rfl hb ?_
          refine sl_guard_u rfl rfl rfl ?_
          refine sl_guard_u rfl rfl rfl ?_
          refine sl_guard_u rfl rfl rfl ?_
          refine sl_guard_u rfl rfl rfl ?_
          refine sl_guard_u rfl rfl rfl ?_
          refine sl_guard_u rfl rfl rfl ?_
          refine sl_guard_u rfl rfl rfl ?_
          refine sl_guard_u rfl rfl rfl ?_
          refine sl_guard_n rfl rfl rfl hb ?_
          refine sl_pk_t rfl rfl rfl hb rfl ?_
          refine sl_set 38 (.val (.bool (numStop l i))) (numStop_t rfl (by intro h; have := of_decide_eq_true hb; have := h.2; omega)) ?_
          refine sl_nil ?_
          refine ⟨?_, ?_, rfl, trivial⟩
          · refine ⟨rfl, ?_⟩; repeat (first | exact WkL.nil | refine WkL.cons (Weak.refl _) ?_ | refine WkL.cons (Weak.toV rfl) ?_ | refine WkL.cons (Weak.ref _) ?_ | refine WkL.cons (Weak.rp_agg _) ?_)
          · repeat (first | exact Sub.refl _ | exact Sub.none _ | refine Sub.p0 ?_ | refine Sub.p1 ?_ | refine Sub.p2 ?_ | refine Sub.p3 ?_ | refine Sub.p4 ?_ | refine Sub.p5 ?_ | refine Sub.p6 ?_ | refine Sub.drop ?_)
        · have hb1 : i < 10 := by have := of_decide_eq_false hb; omega
          refine sl_guard_y rfl rfl rfl hb ?_
          refine sl_mv rfl rfl rfl ?_
          refine sl_guard_y rfl rfl rfl hb ?_
          refine sl_bin rfl rfl rfl rfl rfl ?_
          refine sl_guard_y rfl rfl rfl hb ?_
          refine sl_mv rfl rfl rfl ?_
          refine sl_case_at 28 rfl (fun h9 => ?_) (fun h9 => ?_)
          · have h91 : i = 9 := by have := eq_of_beq h9; omega
            refine sl_guard_y rfl rfl rfl h9 ?_
            refine sl_mv rfl rfl rfl ?_
            refine sl_guard_y rfl rfl rfl h9 ?_
            refine sl_nc rfl rfl rfl rfl ?_
            refine sl_guard_y rfl rfl rfl h9 ?_
            first
              | refine sl_fieldAddr_ptr rfl rfl rfl fo_80_0 ?_
              | refine sl_fieldAddr_rp rfl rfl rfl fo_80_0 ?_
              | refine sl_fieldAddr_ref rfl rfl rfl fo_80_0 ?_
            refine sl_guard_y rfl rfl rfl h9 ?_
            first
              | refine sl_load_rp1 rfl rfl rfl ag_26 rfl ?_
              | refine sl_load_blk1 rfl rfl rfl ag_26 (by first | exact List.Mem.head _ | exact List.Mem.tail _ (List.Mem.head _) | exact List.Mem.tail _ (List.Mem.tail _ (List.Mem.head _)) | exact List.Mem.tail _ (List.Mem.tail _ (List.Mem.tail _ (List.Mem.head _))) | exact List.Mem.tail _ (List.Mem.tail _ (List.Mem.tail _ (List.Mem.tail _ (List.Mem.head _)))) | exact List.Mem.tail _ (List.Mem.tail _ (List.Mem.tail _ (List.Mem.tail _ (List.Mem.tail _ (List.Mem.head _)))))) rfl ?_
            refine sl_guard_y rfl rfl rfl h9 ?_
            refine sl_mv rfl rfl rfl ?_
            refine sl_guard_y rfl rfl rfl h9 ?_
            refine sl_indexAddr' rfl rfl rfl rfl u_26 sz_5 (by omega) (idx_map ha1) rfl ?_
            refine sl_guard_y rfl rfl rfl h9 ?_
            first
              | refine sl_load_rp1 rfl rfl rfl ag_5 rfl ?_
              | refine sl_load_blk1 rfl rfl rfl ag_5 (by first | exact List.Mem.head _ | exact List.Mem.tail _ (List.Mem.head _) | exact List.Mem.tail _ (List.Mem.tail _ (List.Mem.head _)) | exact List.Mem.tail _ (List.Mem.tail _ (List.Mem.tail _ (List.Mem.head _))) | exact List.Mem.tail _ (List.Mem.tail _ (List.Mem.tail _ (List.Mem.tail _ (List.Mem.head _)))) | exact List.Mem.tail _ (List.Mem.tail _ (List.Mem.tail _ (List.Mem.tail _ (List.Mem.tail _ (List.Mem.head _)))))) rfl ?_
            refine sl_guard_y rfl rfl rfl h9 ?_
            refine sl_bin rfl rfl rfl rfl rfl ?_
            refine sl_guard_y rfl rfl rfl hb ?_
            refine sl_pk_t rfl rfl rfl h9 rfl ?_
            refine sl_pk_f rfl rfl rfl hb rfl ?_
            refine sl_set 38 (.val (.bool (numStop l i))) (num9 ha1 h91) ?_
            refine sl_nil ?_
            refine ⟨?_, ?_, rfl, trivial⟩
            · refine ⟨rfl, ?_⟩; repeat (first | exact WkL.nil | refine WkL.cons (Weak.refl _) ?_ | refine WkL.cons (Weak.toV rfl) ?_ | refine WkL.cons (Weak.ref _) ?_ | refine WkL.cons (Weak.rp_agg _) ?_)
            · repeat (first | exact Sub.refl _ | exact Sub.none _ | refine Sub.p0 ?_ | refine Sub.p1 ?_ | refine Sub.p2 ?_ | refine Sub.p3 ?_ | refine Sub.p4 ?_ | refine Sub.p5 ?_ | refine Sub.p6 ?_ | refine Sub.drop ?_)
          · have h91 : i ≠ 9 := by have := beq_eq_false_iff_ne.mp h9; omega
            refine sl_guard_n rfl rfl rfl h9 ?_
            refine sl_guard_n rfl rfl rfl h9 ?_
            refine sl_guard_n rfl rfl rfl h9 ?_
            refine sl_guard_n rfl rfl rfl h9 ?_
            refine sl_guard_n rfl rfl rfl h9 ?_
            refine sl_guard_n rfl rfl rfl h9 ?_
            refine sl_guard_n rfl rfl rfl h9 ?_
            refine sl_guard_n rfl rfl rfl h9 ?_
            refine sl_guard_y rfl rfl rfl hb ?_
            refine sl_pk_f rfl rfl rfl h9 rfl ?_
            refine sl_pk_f rfl rfl rfl hb rfl ?_
            refine sl_set 38 (.val (.bool (numStop l i))) (numStop_f rfl ⟨ha1, .inl (by omega)⟩) ?_
            refine sl_nil ?_
            refine ⟨?_, ?_, rfl, trivial⟩
            · refine ⟨rfl, ?_⟩; repeat (first | exact WkL.nil | refine WkL.cons (Weak.refl _) ?_ | refine WkL.cons (Weak.toV rfl) ?_ | refine WkL.cons (Weak.ref _) ?_ | refine WkL.cons (Weak.rp_agg _) ?_)
            · repeat (first | exact Sub.refl _ | exact Sub.none _ | refine Sub.p0 ?_ | refine Sub.p1 ?_ | refine Sub.p2 ?_ | refine Sub.p3 ?_ | refine Sub.p4 ?_ | refine Sub.p5 ?_ | refine Sub.p6 ?_ | refine Sub.drop ?_)
    · intro _
      refine sw_cond rfl (fun hs => ?_) (fun hs => ?_)
      · have hs1 := numStop_iff.1.mp hs
        have hnone : decN 0 l = none := by rw [hd, decN_stop hi hs1]; rfl
        refine sw_exit ?_
        refine sw_seq ?_
        refine sl_region ?_
        refine sl_mv rfl rfl rfl ?_
        refine sl_nc rfl rfl rfl rfl ?_
        first
          | refine sl_fieldAddr_ptr rfl rfl rfl fo_80_1 ?_
          | refine sl_fieldAddr_rp rfl rfl rfl fo_80_1 ?_
          | refine sl_fieldAddr_ref rfl rfl rfl fo_80_1 ?_
        first
          | refine sl_st rfl rfl rfl rfl sz_4 rfl rfl rfl (Nat.le_of_ble_eq_true rfl) ?_
          | (refine sl_f1 ?_; refine sl_st rfl rfl rfl rfl sz_4 rfl rfl rfl (Nat.le_of_ble_eq_true rfl) ?_)
          | (refine sl_f2 ?_; refine sl_st rfl rfl rfl rfl sz_4 rfl rfl rfl (Nat.le_of_ble_eq_true rfl) ?_)
          | (refine sl_f3 ?_; refine sl_st rfl rfl rfl rfl sz_4 rfl rfl rfl (Nat.le_of_ble_eq_true rfl) ?_)
          | (refine sl_f4 ?_; refine sl_st rfl rfl rfl rfl sz_4 rfl rfl rfl (Nat.le_of_ble_eq_true rfl) ?_)
          | (refine sl_f5 ?_; refine sl_st rfl rfl rfl rfl sz_4 rfl rfl rfl (Nat.le_of_ble_eq_true rfl) ?_)
          | (refine sl_f6 ?_; refine sl_st rfl rfl rfl rfl sz_4 rfl rfl rfl (Nat.le_of_ble_eq_true rfl) ?_)
        refine sl_nil ?_
        refine sw_seq ?_
        refine sl_region ?_
        refine sl_as rfl rfl rfl ?_
        refine sl_nil ?_
        refine sw_ret ⟨rfl, _, _, res_one rfl rfl, ?_, by rw [rdOf_bad hnone]; exact ⟨rfl, _, ⟨l, rfl⟩, rfl⟩⟩
        repeat (first | exact Sub.refl _ | exact Sub.none _ | refine Sub.p0 ?_ | refine Sub.p1 ?_ | refine Sub.p2 ?_ | refine Sub.p3 ?_ | refine Sub.p4 ?_ | refine Sub.p5 ?_ | refine Sub.p6 ?_ | refine Sub.drop ?_)
      · obtain ⟨hlt, hj⟩ := goes_lt (numStop_iff.2.mp hs)
        rw [drop_at hlt] at hd
        have hj2 : i < 9 ∧ l[i].toNat % 128 < 128 ∨ i = 9 ∧ l[i].toNat % 128 ≤ 1 := by omega
        refine sw_skip ?_
        refine sw_seq ?_
        refine sl_region ?_
        refine sl_mv rfl rfl rfl ?_
        refine sl_nc rfl rfl rfl rfl ?_
        first
          | refine sl_fieldAddr_ptr rfl rfl rfl fo_80_0 ?_
          | refine sl_fieldAddr_rp rfl rfl rfl fo_80_0 ?_
          | refine sl_fieldAddr_ref rfl rfl rfl fo_80_0 ?_
        first
          | refine sl_load_rp1 rfl rfl rfl ag_26 rfl ?_
          | refine sl_load_blk1 rfl rfl rfl ag_26 (by first | exact List.Mem.head _ | exact List.Mem.tail _ (List.Mem.head _) | exact List.Mem.tail _ (List.Mem.tail _ (List.Mem.head _)) | exact List.Mem.tail _ (List.Mem.tail _ (List.Mem.tail _ (List.Mem.head _))) | exact List.Mem.tail _ (List.Mem.tail _ (List.Mem.tail _ (List.Mem.tail _ (List.Mem.head _)))) | exact List.Mem.tail _ (List.Mem.tail _ (List.Mem.tail _ (List.Mem.tail _ (List.Mem.tail _ (List.Mem.head _)))))) rfl ?_
        refine sl_mv rfl rfl rfl ?_
        refine sl_indexAddr' rfl rfl rfl rfl u_26 sz_5 (by omega) (idx_map hlt) rfl ?_
        first
          | refine sl_load_rp1 rfl rfl rfl ag_5 rfl ?_
          | refine sl_load_blk1 rfl rfl rfl ag_5 (by first | exact List.Mem.head _ | exact List.Mem.tail _ (List.Mem.head _) | exact List.Mem.tail _ (List.Mem.tail _ (List.Mem.head _)) | exact List.Mem.tail _ (List.Mem.tail _ (List.Mem.tail _ (List.Mem.head _))) | exact List.Mem.tail _ (List.Mem.tail _ (List.Mem.tail _ (List.Mem.tail _ (List.Mem.head _)))) | exact List.Mem.tail _ (List.Mem.tail _ (List.Mem.tail _ (List.Mem.tail _ (List.Mem.tail _ (List.Mem.head _)))))) rfl ?_
        refine sl_as rfl rfl rfl ?_
        refine sl_nil ?_
        refine sw_seq ?_
        refine sl_region ?_
        refine sl_mv rfl rfl rfl ?_
        refine sl_mv rfl rfl rfl ?_
        refine sl_bin rfl rfl rfl rfl rfl ?_
        refine sl_set 48 (.val (.int .u8 ((l[i].toNat % 128 : Nat) : Int))) (low_byte l[i]) ?_
        refine sl_conv_int rfl rfl rfl is_5 u_37 ?_
        refine sl_set 49 (.val (.int .u64 ((l[i].toNat % 128 : Nat) : Int))) (congrArg (fun z => D.val (.int .u64 z)) (wrapped_u64 _ (by omega))) ?_
        refine sl_mv rfl rfl rfl ?_
        refine sl_shl rfl rfl rfl rfl (by omega) ?_
        refine sl_set 51 (.val (.int .u64 ((128 ^ i * (l[i].toNat % 128) : Nat) : Int))) (shl_part hj2) ?_
        refine sl_bin rfl rfl rfl rfl rfl ?_
        refine sl_set 52 (.val (.int .u64 ((n + 128 ^ i * (l[i].toNat % 128) : Nat) : Int))) (or_part hn hj2) ?_
        refine sl_as rfl rfl rfl ?_
        refine sl_nil ?_
        refine sw_seq ?_
        refine sl_region ?_
        refine sl_mv rfl rfl rfl ?_
        first
          | refine sl_inc rfl rfl rfl rfl (by omega) ?_
          | refine sl_add rfl rfl rfl rfl (by constructor <;> omega) ?_
          | refine sl_bin rfl rfl rfl rfl rfl ?_
        refine sl_set 54 (.val (.int .i64 ((7 * (i + 1) : Nat) : Int))) (congrArg (fun z => D.val (.int .i64 z)) (by omega)) ?_
        refine sl_as rfl rfl rfl ?_
        refine sl_nil ?_
        refine sw_seq ?_
        refine sl_region ?_
        refine sl_mv rfl rfl rfl ?_
        refine sl_bin rfl rfl rfl rfl rfl ?_
        refine sl_nil ?_
        refine sw_cond rfl (fun hx => ?_) (fun hx => ?_)
        · have hx : l[i].toNat < 128 := by have := of_decide_eq_true hx; omega
          refine sw_seq ?_
          refine sw_seq ?_
          refine sl_region ?_
          refine sl_mv rfl rfl rfl ?_
          refine sl_bin rfl rfl rfl rfl rfl ?_
          refine sl_mv rfl rfl rfl ?_
          refine sl_case_at 59 rfl (fun hz => ?_) (fun hz => ?_)
          · have hz1 : l[i].toNat = 0 := by simpa using hz
            refine sl_guard_y rfl rfl rfl hz ?_
            refine sl_mv rfl rfl rfl ?_
            refine sl_guard_y rfl rfl rfl hz ?_
            refine sl_bin rfl rfl rfl rfl rfl ?_
            refine sl_pk_t rfl rfl rfl hz rfl ?_
            refine sl_nil ?_
            refine sw_cond rfl (fun h0 => ?_) (fun h0 => ?_)
            · have h0 : i ≠ 0 := by have := of_decide_eq_true h0; omega
              have hnone : decN 0 l = none := by rw [hd, decN_nought hz1 h0]; rfl
              refine sw_exit ?_
              refine sw_seq ?_
              refine sl_region ?_
              refine sl_mv rfl rfl rfl ?_
              refine sl_nc rfl rfl rfl rfl ?_
              first
                | refine sl_fieldAddr_ptr rfl rfl rfl fo_80_1 ?_
                | refine sl_fieldAddr_rp rfl rfl rfl fo_80_1 ?_
                | refine sl_fieldAddr_ref rfl rfl rfl fo_80_1 ?_
              first
                | refine sl_st rfl rfl rfl rfl sz_4 rfl rfl rfl (Nat.le_of_ble_eq_true rfl) ?_
                | (refine sl_f1 ?_; refine sl_st rfl rfl rfl rfl sz_4 rfl rfl rfl (Nat.le_of_ble_eq_true rfl) ?_)
                | (refine sl_f2 ?_; refine sl_st rfl rfl rfl rfl sz_4 rfl rfl rfl (Nat.le_of_ble_eq_true rfl) ?_)
                | (refine sl_f3 ?_; refine sl_st rfl rfl rfl rfl sz_4 rfl rfl rfl (Nat.le_of_ble_eq_true rfl) ?_)
                | (refine sl_f4 ?_; refine sl_st rfl rfl rfl rfl sz_4 rfl rfl rfl (Nat.le_of_ble_eq_true rfl) ?_)
                | (refine sl_f5 ?_; refine sl_st rfl rfl rfl rfl sz_4 rfl rfl rfl (Nat.le_of_ble_eq_true rfl) ?_)
                | (refine sl_f6 ?_; refine sl_st rfl rfl rfl rfl sz_4 rfl rfl rfl (Nat.le_of_ble_eq_true rfl) ?_)
              refine sl_nil ?_
              refine sw_seq ?_
              refine sl_region ?_
              refine sl_as rfl rfl rfl ?_
              refine sl_nil ?_
              refine sw_ret ⟨rfl, _, _, res_one rfl rfl, ?_, by rw [rdOf_bad hnone]; exact ⟨rfl, _, ⟨l, rfl⟩, rfl⟩⟩
              repeat (first | exact Sub.refl _ | exact Sub.none _ | refine Sub.p0 ?_ | refine Sub.p1 ?_ | refine Sub.p2 ?_ | refine Sub.p3 ?_ | refine Sub.p4 ?_ | refine Sub.p5 ?_ | refine Sub.p6 ?_ | refine Sub.drop ?_)
            · have h0 : i = 0 := by have := of_decide_eq_false h0; omega
              refine sw_skip ?_
              refine sw_seq ?_
              refine sl_region ?_
              refine sl_mv rfl rfl rfl ?_
              refine sl_mv rfl rfl rfl ?_
              refine sl_nc rfl rfl rfl rfl ?_
              first
                | refine sl_fieldAddr_ptr rfl rfl rfl fo_80_0 ?_
                | refine sl_fieldAddr_rp rfl rfl rfl fo_80_0 ?_
                | refine sl_fieldAddr_ref rfl rfl rfl fo_80_0 ?_
              first
                | refine sl_load_rp1 rfl rfl rfl ag_26 rfl ?_
                | refine sl_load_blk1 rfl rfl rfl ag_26 (by first | exact List.Mem.head _ | exact List.Mem.tail _ (List.Mem.head _) | exact List.Mem.tail _ (List.Mem.tail _ (List.Mem.head _)) | exact List.Mem.tail _ (List.Mem.tail _ (List.Mem.tail _ (List.Mem.head _))) | exact List.Mem.tail _ (List.Mem.tail _ (List.Mem.tail _ (List.Mem.tail _ (List.Mem.head _)))) | exact List.Mem.tail _ (List.Mem.tail _ (List.Mem.tail _ (List.Mem.tail _ (List.Mem.tail _ (List.Mem.head _)))))) rfl ?_
              refine sl_mv rfl rfl rfl ?_
              first
                | refine sl_inc rfl rfl rfl rfl (by omega) ?_
                | refine sl_add rfl rfl rfl rfl (by constructor <;> omega) ?_
                | refine sl_bin rfl rfl rfl rfl rfl ?_
              refine sl_slice_list (i + 1) _ rfl rfl rfl u_26 sz_5 (fun x hx => ((show Sized _ _ by repeat (first | exact sized_nil | exact sized_map (fun _ => ⟨rfl, rfl⟩) | refine sized_cons rfl rfl ?_ | refine sized_append ?_ ?_ | assumption)) x hx).1) ⟨_, rfl⟩ rfl (by simp only [List.length_map]; omega) (Nat.le_refl _) ?_
              refine sl_set 70 (.val (.list ((l.drop (i + 1)).map byteV))) (drop_bytes l (i + 1)) ?_
              refine sl_nc rfl rfl rfl rfl ?_
              first
                | refine sl_fieldAddr_ptr rfl rfl rfl fo_80_0 ?_
                | refine sl_fieldAddr_rp rfl rfl rfl fo_80_0 ?_
                | refine sl_fieldAddr_ref rfl rfl rfl fo_80_0 ?_
              first
                | refine sl_st rfl rfl rfl rfl sz_26 rfl rfl rfl (Nat.le_of_ble_eq_true rfl) ?_
                | (refine sl_f1 ?_; refine sl_st rfl rfl rfl rfl sz_26 rfl rfl rfl (Nat.le_of_ble_eq_true rfl) ?_)
                | (refine sl_f2 ?_; refine sl_st rfl rfl rfl rfl sz_26 rfl rfl rfl (Nat.le_of_ble_eq_true rfl) ?_)
                | (refine sl_f3 ?_; refine sl_st rfl rfl rfl rfl sz_26 rfl rfl rfl (Nat.le_of_ble_eq_true rfl) ?_)
                | (refine sl_f4 ?_; refine sl_st rfl rfl rfl rfl sz_26 rfl rfl rfl (Nat.le_of_ble_eq_true rfl) ?_)
                | (refine sl_f5 ?_; refine sl_st rfl rfl rfl rfl sz_26 rfl rfl rfl (Nat.le_of_ble_eq_true rfl) ?_)
                | (refine sl_f6 ?_; refine sl_st rfl rfl rfl rfl sz_26 rfl rfl rfl (Nat.le_of_ble_eq_true rfl) ?_)
              refine sl_nil ?_
              refine sw_seq ?_
              refine sl_region ?_
              refine sl_mv rfl rfl rfl ?_
              refine sl_as rfl rfl rfl ?_
              refine sl_nil ?_
              refine sw_ret ⟨rfl, _, _, res_one rfl rfl, ?_, by rw [rdOf_good (fin_dec hd (decN_last hj hx (.inr h0)) hx)]; exact ⟨rfl, _, ⟨rfl, by rw [List.length_drop]; omega⟩, rfl⟩⟩
              repeat (first | exact Sub.refl _ | exact Sub.none _ | refine Sub.p0 ?_ | refine Sub.p1 ?_ | refine Sub.p2 ?_ | refine Sub.p3 ?_ | refine Sub.p4 ?_ | refine Sub.p5 ?_ | refine Sub.p6 ?_ | refine Sub.drop ?_)
          · have hz1 : l[i].toNat ≠ 0 := by intro h; rw [h] at hz; simp at hz
            refine sl_guard_n rfl rfl rfl hz ?_
            refine sl_guard_n rfl rfl rfl hz ?_
            refine sl_pk_f rfl rfl rfl hz rfl ?_
            refine sl_nil ?_
            refine sw_false rfl (rfl) ?_
            refine sw_skip ?_
            refine sw_seq ?_
            refine sl_region ?_
            refine sl_mv rfl rfl rfl ?_
            refine sl_mv rfl rfl rfl ?_
            refine sl_nc rfl rfl rfl rfl ?_
            first
              | refine sl_fieldAddr_ptr rfl rfl rfl fo_80_0 ?_
              | refine sl_fieldAddr_rp rfl rfl rfl fo_80_0 ?_
              | refine sl_fieldAddr_ref rfl rfl rfl fo_80_0 ?_
            first
              | refine sl_load_rp1 rfl rfl rfl ag_26 rfl ?_
              | refine sl_load_blk1 rfl rfl rfl ag_26 (by first | exact List.Mem.head _ | exact List.Mem.tail _ (List.Mem.head _) | exact List.Mem.tail _ (List.Mem.tail _ (List.Mem.head _)) | exact List.Mem.tail _ (List.Mem.tail _ (List.Mem.tail _ (List.Mem.head _))) | exact List.Mem.tail _ (List.Mem.tail _ (List.Mem.tail _ (List.Mem.tail _ (List.Mem.head _)))) | exact List.Mem.tail _ (List.Mem.tail _ (List.Mem.tail _ (List.Mem.tail _ (List.Mem.tail _ (List.Mem.head _)))))) rfl ?_
            refine sl_mv rfl rfl rfl ?_
            first
              | refine sl_inc rfl rfl rfl rfl (by omega) ?_
              | refine sl_add rfl rfl rfl rfl (by constructor <;> omega) ?_
              | refine sl_bin rfl rfl rfl rfl rfl ?_
            refine sl_slice_list (i + 1) _ rfl rfl rfl u_26 sz_5 (fun x hx => ((show Sized _ _ by repeat (first | exact sized_nil | exact sized_map (fun _ => ⟨rfl, rfl⟩) | refine sized_cons rfl rfl ?_ | refine sized_append ?_ ?_ | assumption)) x hx).1) ⟨_, rfl⟩ rfl (by simp only [List.length_map]; omega) (Nat.le_refl _) ?_
            refine sl_set 70 (.val (.list ((l.drop (i + 1)).map byteV))) (drop_bytes l (i + 1)) ?_
            refine sl_nc rfl rfl rfl rfl ?_
            first
              | refine sl_fieldAddr_ptr rfl rfl rfl fo_80_0 ?_
              | refine sl_fieldAddr_rp rfl rfl rfl fo_80_0 ?_
              | refine sl_fieldAddr_ref rfl rfl rfl fo_80_0 ?_
            first
              | refine sl_st rfl rfl rfl rfl sz_26 rfl rfl rfl (Nat.le_of_ble_eq_true rfl) ?_
              | (refine sl_f1 ?_; refine sl_st rfl rfl rfl rfl sz_26 rfl rfl rfl (Nat.le_of_ble_eq_true rfl) ?_)
              | (refine sl_f2 ?_; refine sl_st rfl rfl rfl rfl sz_26 rfl rfl rfl (Nat.le_of_ble_eq_true rfl) ?_)
              | (refine sl_f3 ?_; refine sl_st rfl rfl rfl rfl sz_26 rfl rfl rfl (Nat.le_of_ble_eq_true rfl) ?_)
              | (refine sl_f4 ?_; refine sl_st rfl rfl rfl rfl sz_26 rfl rfl rfl (Nat.le_of_ble_eq_true rfl) ?_)
              | (refine sl_f5 ?_; refine sl_st rfl rfl rfl rfl sz_26 rfl rfl rfl (Nat.le_of_ble_eq_true rfl) ?_)
              | (refine sl_f6 ?_; refine sl_st rfl rfl rfl rfl sz_26 rfl rfl rfl (Nat.le_of_ble_eq_true rfl) ?_)
            refine sl_nil ?_
            refine sw_seq ?_
            refine sl_region ?_
            refine sl_mv rfl rfl rfl ?_
            refine sl_as rfl rfl rfl ?_
            refine sl_nil ?_
            refine sw_ret ⟨rfl, _, _, res_one rfl rfl, ?_, by rw [rdOf_good (fin_dec hd (decN_last hj hx (.inl hz1)) hx)]; exact ⟨rfl, _, ⟨rfl, by rw [List.length_drop]; omega⟩, rfl⟩⟩
            repeat (first | exact Sub.refl _ | exact Sub.none _ | refine Sub.p0 ?_ | refine Sub.p1 ?_ | refine Sub.p2 ?_ | refine Sub.p3 ?_ | refine Sub.p4 ?_ | refine Sub.p5 ?_ | refine Sub.p6 ?_ | refine Sub.drop ?_)
        · have hx : ¬ l[i].toNat < 128 := by have := of_decide_eq_false hx; omega
          refine sw_skip ?_
          refine sl_region ?_
          refine sl_mv rfl rfl rfl ?_
          first
            | refine sl_inc rfl rfl rfl rfl (by omega) ?_
            | refine sl_add rfl rfl rfl rfl (by constructor <;> omega) ?_
            | refine sl_bin rfl rfl rfl rfl rfl ?_
          refine sl_as rfl rfl rfl ?_
          refine sl_nil ?_
          refine ⟨_, by omega, _, _, ?_, ?_, i + 1, n + 128 ^ i * (l[i].toNat % 128), rfl, rfl, rfl, rfl, by omega, step_lt hn (by omega), step_dec hd hj hx⟩
          · refine ⟨rfl, ?_⟩; repeat (first | exact WkL.nil | refine WkL.cons (Weak.refl _) ?_ | refine WkL.cons (Weak.toV rfl) ?_ | refine WkL.cons (Weak.ref _) ?_ | refine WkL.cons (Weak.rp_agg _) ?_)
          · repeat (first | exact Sub.refl _ | exact Sub.none _ | refine Sub.p0 ?_ | refine Sub.p1 ?_ | refine Sub.p2 ?_ | refine Sub.p3 ?_ | refine Sub.p4 ?_ | refine Sub.p5 ?_ | refine Sub.p6 ?_ | refine Sub.drop ?_)

theorem ynum_bad (q : Nat) (l : List UInt8) (σ : List Chunk) : FSpec Try.prog 40 [.ptr q 0] (rd q l true :: σ) (fun d σ' => d = .val (u64V 0) ∧ σ' = rd q l true :: σ) := by
  refine spec_of_sw Try.func40 rfl ?_
  refine sw_seq ?_
  refine sl_region ?_
  refine sl_as rfl rfl rfl ?_
  refine sl_nil ?_
  refine sw_seq ?_
  refine sl_region ?_
  refine sl_as rfl rfl rfl ?_
  refine sl_as rfl rfl rfl ?_
  refine sl_nil ?_
  refine sw_seq ?_
  refine sw_seq ?_
  refine sl_region ?_
  refine sl_as rfl rfl rfl ?_
  refine sl_nil ?_
  refine sw_block ?_
  refine sw_loopw (fun nX sX δX σX => ∃ (i : Nat), (1) = nX ∧ sX = ⟨77, (.cons 0 (.ptr q 0) .nil)⟩ ∧ δX = [] ∧ σX = rd q l true :: σ) ?_ ?_
  · refine ⟨_, _, _, ?_, ?_, 0, rfl, rfl, rfl, rfl⟩
    · refine ⟨rfl, ?_⟩; repeat (first | exact WkL.nil | refine WkL.cons (Weak.refl _) ?_ | refine WkL.cons (Weak.toV rfl) ?_ | refine WkL.cons (Weak.ref _) ?_ | refine WkL.cons (Weak.rp_agg _) ?_)
    · repeat (first | exact Sub.refl _ | exact Sub.none _ | refine Sub.p0 ?_ | refine Sub.p1 ?_ | refine Sub.p2 ?_ | refine Sub.p3 ?_ | refine Sub.p4 ?_ | refine Sub.p5 ?_ | refine Sub.p6 ?_ | refine Sub.drop ?_)
  · rintro nX sX δX σX ⟨i, rfl, rfl, rfl, rfl⟩
    refine sw_seq ?_
    refine sw_seq ?_
    refine sl_region ?_
    refine sl_mv rfl rfl rfl ?_
    refine sl_nc rfl rfl rfl rfl ?_
    first
      | refine sl_fieldAddr_ptr rfl rfl rfl fo_80_1 ?_
      | refine sl_fieldAddr_rp rfl rfl rfl fo_80_1 ?_
      | refine sl_fieldAddr_ref rfl rfl rfl fo_80_1 ?_
    first
      | refine sl_load_rp1 rfl rfl rfl ag_4 rfl ?_
      | refine sl_load_blk1 rfl rfl rfl ag_4 (by first | exact List.Mem.head _ | exact List.Mem.tail _ (List.Mem.head _) | exact List.Mem.tail _ (List.Mem.tail _ (List.Mem.head _)) | exact List.Mem.tail _ (List.Mem.tail _ (List.Mem.tail _ (List.Mem.head _))) | exact List.Mem.tail _ (List.Mem.tail _ (List.Mem.tail _ (List.Mem.tail _ (List.Mem.head _)))) | exact List.Mem.tail _ (List.Mem.tail _ (List.Mem.tail _ (List.Mem.tail _ (List.Mem.tail _ (List.Mem.head _)))))) rfl ?_
    refine sl_not rfl rfl rfl ?_
    refine sl_nil ?_
    refine sw_false rfl (rfl) ?_
    refine sw_exit ?_
    refine sw_seq ?_
    refine sl_region ?_
    refine sl_mv rfl rfl rfl ?_
    refine sl_nc rfl rfl rfl rfl ?_
    first
      | refine sl_fieldAddr_ptr rfl rfl rfl fo_80_1 ?_
      | refine sl_fieldAddr_rp rfl rfl rfl fo_80_1 ?_
      | refine sl_fieldAddr_ref rfl rfl rfl fo_80_1 ?_
    first
      | refine sl_st rfl rfl rfl rfl sz_4 rfl rfl rfl (Nat.le_of_ble_eq_true rfl) ?_
      | (refine sl_f1 ?_; refine sl_st rfl rfl rfl rfl sz_4 rfl rfl rfl (Nat.le_of_ble_eq_true rfl) ?_)
      | (refine sl_f2 ?_; refine sl_st rfl rfl rfl rfl sz_4 rfl rfl rfl (Nat.le_of_ble_eq_true rfl) ?_)
      | (refine sl_f3 ?_; refine sl_st rfl rfl rfl rfl sz_4 rfl rfl rfl (Nat.le_of_ble_eq_true rfl) ?_)
      | (refine sl_f4 ?_; refine sl_st rfl rfl rfl rfl sz_4 rfl rfl rfl (Nat.le_of_ble_eq_true rfl) ?_)
      | (refine sl_f5 ?_; refine sl_st rfl rfl rfl rfl sz_4 rfl rfl rfl (Nat.le_of_ble_eq_true rfl) ?_)
      | (refine sl_f6 ?_; refine sl_st rfl rfl rfl rfl sz_4 rfl rfl rfl (Nat.le_of_ble_eq_true rfl) ?_)
    refine sl_nil ?_
    refine sw_seq ?_
    refine sl_region ?_
    refine sl_as rfl rfl rfl ?_
    refine sl_nil ?_
    refine sw_ret ⟨rfl, _, _, res_one rfl rfl, ?_, ⟨rfl, rfl⟩⟩
    repeat (first | exact Sub.refl _ | exact Sub.none _ | refine Sub.p0 ?_ | refine Sub.p1 ?_ | refine Sub.p2 ?_ | refine Sub.p3 ?_ | refine Sub.p4 ?_ | refine Sub.p5 ?_ | refine Sub.p6 ?_ | refine Sub.drop ?_)

theorem ynum_ok (q : Nat) (st : Option (List UInt8)) (c : Chunk) (σ : List Chunk) (h : Rdr q st c) :
    FSpec Try.prog 40 [.ptr q 0] (c :: σ) (fun d σ' => d = .val (u64V (rdOf (decN 0) 0 st).1) ∧ ∃ c', Rdr q (rdOf (decN 0) 0 st).2 c' ∧ σ' = c' :: σ) := by
  cases st with
  | some l => obtain ⟨rfl, hl⟩ := h; exact ynum_good q l σ hl
  | none => obtain ⟨r, rfl⟩ := h; exact (ynum_bad q r σ).mono fun d σ' h => ⟨h.1, _, ⟨r, rfl⟩, h.2⟩

theorem rdOf_lt {st : Option (List UInt8)} : (rdOf (decN 0) 0 st).1 < 18446744073709551616 := by
  cases st with
  | none => simp [rdOf]
  | some l =>
    cases e : decN 0 l with
    | none => rw [rdOf_bad e]; simp
    | some p => rw [rdOf_good (v := p.1) (r := p.2) (by rw [e])]; exact decN_lt64 (r := p.2) (by rw [e])

theorem rdOf_int (st : Option (List UInt8)) : rdOf decI (0 : Int) st = (unzig (rdOf (decN 0) 0 st).1, (rdOf (decN 0) 0 st).2) := by
  cases st with
  | none => rfl
  | some l =>
    cases e : decN 0 l with
    | none => rw [rdOf_bad e, rdOf_bad (by unfold decI; rw [e]; rfl)]; rfl
    | some p => rw [rdOf_good (v := p.1) (r := p.2) (by rw [e]), rdOf_good (v := unzig p.1) (r := p.2) (by unfold decI; rw [e]; rfl)]

theorem odd_bit (n : Nat) (h : n < 18446744073709551616) : D.val (.bool (IntKind.u64.wrap ((BitVec.ofInt IntKind.u64.bits (n : Int) &&& BitVec.ofInt IntKind.u64.bits 1).toNat : Int) == 1)) = .val (.bool (decide (n % 2 = 1))) := by
  have h1 : (BitVec.ofInt IntKind.u64.bits (n : Int) &&& BitVec.ofInt IntKind.u64.bits 1).toNat = n % 2 := by
    show (BitVec.ofInt 64 (n : Int) &&& BitVec.ofInt 64 1).toNat = n % 2
    have h2 : (BitVec.ofInt 64 1).toNat = 1 := by decide
    rw [BitVec.toNat_and, h2, BitVec.toNat_ofInt]
    have : ((n : Int) % ((2 ^ 64 : Nat) : Int)).toNat = n := by omega
    rw [this, Nat.and_one_is_mod]
  rw [h1, wrapped_u64 _ (by omega)]
  by_cases h : n % 2 = 1
  · rw [h]; rfl
  · rw [show n % 2 = 0 by omega]; rfl

theorem half_eq {n : Nat} (h : n < 18446744073709551616) : D.val (.int .i64 (IntKind.i64.wrap ((n : Int).fdiv (2 ^ (min (1 : Int).toNat IntKind.u64.bits))))) = .val (.int .i64 ((n / 2 : Nat) : Int)) := by
  have e1 : min (1 : Int).toNat IntKind.u64.bits = 1 := by decide
  rw [e1, Int.fdiv_eq_ediv_of_nonneg _ (by decide)]
  have h3 : ((n : Int) / 2 ^ 1) = ((n / 2 : Nat) : Int) := by omega
  rw [h3, wrap_i64 (n := ((n / 2 : Nat) : Int)) (by omega) (by omega)]

theorem half_neg {n : Nat} (ho : n % 2 = 1) : D.val (.int .i64 ((0 - ((n / 2 : Nat) : Int)) - 1)) = .val (i64V (unzig n)) := by
  unfold i64V unzig
  rw [if_pos ho]
  congr 2; omega

theorem half_pos {n : Nat} (h : n < 18446744073709551616) (ho : ¬ n % 2 = 1) : D.val (.int .i64 (IntKind.i64.wrap ((n : Int).fdiv (2 ^ (min (1 : Int).toNat IntKind.u64.bits))))) = .val (i64V (unzig n)) := by
  have e1 : min (1 : Int).toNat IntKind.u64.bits = 1 := by decide
  rw [e1, Int.fdiv_eq_ediv_of_nonneg _ (by decide)]
  have h3 : ((n : Int) / 2 ^ 1) = ((n / 2 : Nat) : Int) := by omega
  rw [h3, wrap_i64 (n := ((n / 2 : Nat) : Int)) (by omega) (by omega)]
  unfold i64V unzig
  rw [if_neg ho]

theorem yint_ok (q : Nat) (st : Option (List UInt8)) (c : Chunk) (σ : List Chunk) (h : Rdr q st c) :
    FSpec Try.prog 82 [.ptr q 0] (c :: σ) (fun d σ' => d = .val (i64V (rdOf decI 0 st).1) ∧ ∃ c', Rdr q (rdOf decI 0 st).2 c' ∧ σ' = c' :: σ) := by
  have hlt := rdOf_lt (st := st)
  rw [rdOf_int]
  obtain ⟨n, hn⟩ : ∃ n, n = (rdOf (decN 0) 0 st).1 := ⟨_, rfl⟩
  rw [← hn] at hlt
  have hh : n / 2 < 9223372036854775808 := by omega
  refine spec_of_sw Try.func82 rfl ?_
  refine sw_seq ?_
  refine sl_region ?_
  refine sl_as rfl rfl rfl ?_
  refine sl_nil ?_
  refine sw_seq ?_
  refine sl_region ?_
  refine sl_mv rfl rfl rfl ?_
  refine sl_callf rfl rfl cal_40 (ynum_ok q st c σ h) ?_ ?_ ?_ (fun _ _ h => h.elim)
  · repeat (first | exact Weaks.nil | refine Weaks.cons (Weak.junk _) ?_ | refine Weaks.cons (Weak.refl _) ?_ | refine Weaks.cons (Weak.toV rfl) ?_ | refine Weaks.cons (Weak.ref _) ?_ | refine Weaks.cons (Weak.rp_agg _) ?_)
  · repeat (first | exact Sub.refl _ | exact Sub.none _ | refine Sub.p0 ?_ | refine Sub.p1 ?_ | refine Sub.p2 ?_ | refine Sub.p3 ?_ | refine Sub.p4 ?_ | refine Sub.p5 ?_ | refine Sub.p6 ?_ | refine Sub.drop ?_)
  rintro _ _ ⟨rfl, c2, h2, rfl⟩
  rw [← hn]
  refine sl_as rfl rfl rfl ?_
  refine sl_nil ?_
  refine sw_seq ?_
  refine sw_seq ?_
  refine sl_region ?_
  refine sl_mv rfl rfl rfl ?_
  refine sl_bin rfl rfl rfl rfl rfl ?_
  refine sl_bin rfl rfl rfl rfl rfl ?_
  refine sl_set 8 (.val (.bool (decide (n % 2 = 1)))) (odd_bit n hlt) ?_
  refine sl_nil ?_
  refine sw_cond rfl (fun ho => ?_) (fun ho => ?_)
  · have ho : n % 2 = 1 := of_decide_eq_true ho
    refine sw_seq ?_
    refine sl_region ?_
    refine sl_mv rfl rfl rfl ?_
    refine sl_shr rfl rfl rfl rfl (by decide) ?_
    refine sl_conv_int rfl rfl rfl is_37 u_2 ?_
    refine sl_set 11 (.val (.int .i64 ((n / 2 : Nat) : Int))) (half_eq hlt) ?_
    refine sl_neg rfl rfl rfl ?_
    refine sl_set 12 (.val (.int .i64 (0 - ((n / 2 : Nat) : Int)))) (congrArg (fun z => D.val (.int .i64 z)) (wrap_i64 (n := 0 - ((n / 2 : Nat) : Int)) (by omega) (by omega))) ?_
    first
      | refine sl_sub_ rfl rfl rfl rfl (by constructor <;> omega) ?_
      | refine sl_bin rfl rfl rfl rfl rfl ?_
    refine sl_set 13 (.val (i64V (unzig n))) (half_neg ho) ?_
    refine sl_as rfl rfl rfl ?_
    refine sl_nil ?_
    refine sw_ret ⟨rfl, _, _, res_one rfl rfl, ?_, ⟨rfl, c2, h2, rfl⟩⟩
    repeat (first | exact Sub.refl _ | exact Sub.none _ | refine Sub.p0 ?_ | refine Sub.p1 ?_ | refine Sub.p2 ?_ | refine Sub.p3 ?_ | refine Sub.p4 ?_ | refine Sub.p5 ?_ | refine Sub.p6 ?_ | refine Sub.drop ?_)
  · have ho : ¬ n % 2 = 1 := of_decide_eq_false ho
    refine sw_skip ?_
    refine sw_seq ?_
    refine sl_region ?_
    refine sl_mv rfl rfl rfl ?_
    refine sl_shr rfl rfl rfl rfl (by decide) ?_
    refine sl_conv_int rfl rfl rfl is_37 u_2 ?_
    refine sl_set 16 (.val (i64V (unzig n))) (half_pos hlt ho) ?_
    refine sl_as rfl rfl rfl ?_
    refine sl_nil ?_
    refine sw_ret ⟨rfl, _, _, res_one rfl rfl, ?_, ⟨rfl, c2, h2, rfl⟩⟩
    repeat (first | exact Sub.refl _ | exact Sub.none _ | refine Sub.p0 ?_ | refine Sub.p1 ?_ | refine Sub.p2 ?_ | refine Sub.p3 ?_ | refine Sub.p4 ?_ | refine Sub.p5 ?_ | refine Sub.p6 ?_ | refine Sub.drop ?_)

theorem decT_of {l r : List UInt8} {n : Nat} (h : decN 0 l = some (n, r)) : decT l = if n ≤ r.length then some (r.take n, r.drop n) else none := by
  unfold decT; rw [h]

theorem ytext_good (q : Nat) (l : List UInt8) (σ : List Chunk) (hl : l.length ≤ 100000000) :
    FSpec Try.prog 42 [.ptr q 0] (rd q l false :: σ) (fun d σ' => d = .val (strV (rdOf decT [] (some l)).1) ∧ ∃ c', Rdr q (rdOf decT [] (some l)).2 c' ∧ σ' = c' :: σ) := by
  refine spec_of_sw Try.func42 rfl ?_
  refine sw_seq ?_
  refine sl_region ?_
  refine sl_as rfl rfl rfl ?_
  refine sl_nil ?_
  refine sw_seq ?_
  refine sl_region ?_
  refine sl_mv rfl rfl rfl ?_
  refine sl_callf rfl rfl cal_40 (ynum_good q l σ hl) ?_ ?_ ?_ (fun _ _ h => h.elim)
  · repeat (first | exact Weaks.nil | refine Weaks.cons (Weak.junk _) ?_ | refine Weaks.cons (Weak.refl _) ?_ | refine Weaks.cons (Weak.toV rfl) ?_ | refine Weaks.cons (Weak.ref _) ?_ | refine Weaks.cons (Weak.rp_agg _) ?_)
  · repeat (first | exact Sub.refl _ | exact Sub.none _ | refine Sub.p0 ?_ | refine Sub.p1 ?_ | refine Sub.p2 ?_ | refine Sub.p3 ?_ | refine Sub.p4 ?_ | refine Sub.p5 ?_ | refine Sub.p6 ?_ | refine Sub.drop ?_)
  rintro _ _ ⟨rfl, c2, h2, rfl⟩
  rcases hdec : decN 0 l with _ | ⟨n, r⟩
  · rw [rdOf_bad hdec] at h2 ⊢
    obtain ⟨r, rfl⟩ := h2
    refine sl_as rfl rfl rfl ?_
    refine sl_nil ?_
    refine sw_seq ?_
    refine sw_seq ?_
    refine sl_region ?_
    refine sl_mv rfl rfl rfl ?_
    refine sl_nc rfl rfl rfl rfl ?_
    first
      | refine sl_fieldAddr_ptr rfl rfl rfl fo_80_1 ?_
      | refine sl_fieldAddr_rp rfl rfl rfl fo_80_1 ?_
      | refine sl_fieldAddr_ref rfl rfl rfl fo_80_1 ?_
    first
      | refine sl_load_rp1 rfl rfl rfl ag_4 rfl ?_
      | refine sl_load_blk1 rfl rfl rfl ag_4 (by first | exact List.Mem.head _ | exact List.Mem.tail _ (List.Mem.head _) | exact List.Mem.tail _ (List.Mem.tail _ (List.Mem.head _)) | exact List.Mem.tail _ (List.Mem.tail _ (List.Mem.tail _ (List.Mem.head _))) | exact List.Mem.tail _ (List.Mem.tail _ (List.Mem.tail _ (List.Mem.tail _ (List.Mem.head _)))) | exact List.Mem.tail _ (List.Mem.tail _ (List.Mem.tail _ (List.Mem.tail _ (List.Mem.tail _ (List.Mem.head _)))))) rfl ?_
    refine sl_mv rfl rfl rfl ?_
    refine sl_guard_n rfl rfl rfl (rfl) ?_
    refine sl_guard_n rfl rfl rfl (rfl) ?_
    refine sl_guard_n rfl rfl rfl (rfl) ?_
    refine sl_guard_n rfl rfl rfl (rfl) ?_
    refine sl_guard_n rfl rfl rfl (rfl) ?_
    refine sl_guard_n rfl rfl rfl (rfl) ?_
    refine sl_guard_n rfl rfl rfl (rfl) ?_
    refine sl_guard_n rfl rfl rfl (rfl) ?_
    refine sl_pk_t rfl rfl rfl (rfl) rfl ?_
    refine sl_nil ?_
    refine sw_true rfl (rfl) ?_
    refine sw_seq ?_
    refine sl_region ?_
    refine sl_mv rfl rfl rfl ?_
    refine sl_nc rfl rfl rfl rfl ?_
    first
      | refine sl_fieldAddr_ptr rfl rfl rfl fo_80_1 ?_
      | refine sl_fieldAddr_rp rfl rfl rfl fo_80_1 ?_
      | refine sl_fieldAddr_ref rfl rfl rfl fo_80_1 ?_
    first
      | refine sl_st rfl rfl rfl rfl sz_4 rfl rfl rfl (Nat.le_of_ble_eq_true rfl) ?_
      | (refine sl_f1 ?_; refine sl_st rfl rfl rfl rfl sz_4 rfl rfl rfl (Nat.le_of_ble_eq_true rfl) ?_)
      | (refine sl_f2 ?_; refine sl_st rfl rfl rfl rfl sz_4 rfl rfl rfl (Nat.le_of_ble_eq_true rfl) ?_)
      | (refine sl_f3 ?_; refine sl_st rfl rfl rfl rfl sz_4 rfl rfl rfl (Nat.le_of_ble_eq_true rfl) ?_)
      | (refine sl_f4 ?_; refine sl_st rfl rfl rfl rfl sz_4 rfl rfl rfl (Nat.le_of_ble_eq_true rfl) ?_)
      | (refine sl_f5 ?_; refine sl_st rfl rfl rfl rfl sz_4 rfl rfl rfl (Nat.le_of_ble_eq_true rfl) ?_)
      | (refine sl_f6 ?_; refine sl_st rfl rfl rfl rfl sz_4 rfl rfl rfl (Nat.le_of_ble_eq_true rfl) ?_)
    refine sl_nil ?_
    refine sw_seq ?_
    refine sl_region ?_
    refine sl_as rfl rfl rfl ?_
    refine sl_nil ?_
    refine sw_ret ⟨rfl, _, _, res_one rfl rfl, ?_, by rw [rdOf_bad (by unfold decT; rw [hdec])]; exact ⟨rfl, _, ⟨r, rfl⟩, rfl⟩⟩
    repeat (first | exact Sub.refl _ | exact Sub.none _ | refine Sub.p0 ?_ | refine Sub.p1 ?_ | refine Sub.p2 ?_ | refine Sub.p3 ?_ | refine Sub.p4 ?_ | refine Sub.p5 ?_ | refine Sub.p6 ?_ | refine Sub.drop ?_)
  · rw [rdOf_good hdec] at h2 ⊢
    obtain ⟨rfl, hr⟩ := h2
    refine sl_as rfl rfl rfl ?_
    refine sl_nil ?_
    refine sw_seq ?_
    refine sw_seq ?_
    refine sl_region ?_
    refine sl_mv rfl rfl rfl ?_
    refine sl_nc rfl rfl rfl rfl ?_
    first
      | refine sl_fieldAddr_ptr rfl rfl rfl fo_80_1 ?_
      | refine sl_fieldAddr_rp rfl rfl rfl fo_80_1 ?_
      | refine sl_fieldAddr_ref rfl rfl rfl fo_80_1 ?_
    first
      | refine sl_load_rp1 rfl rfl rfl ag_4 rfl ?_
      | refine sl_load_blk1 rfl rfl rfl ag_4 (by first | exact List.Mem.head _ | exact List.Mem.tail _ (List.Mem.head _) | exact List.Mem.tail _ (List.Mem.tail _ (List.Mem.head _)) | exact List.Mem.tail _ (List.Mem.tail _ (List.Mem.tail _ (List.Mem.head _))) | exact List.Mem.tail _ (List.Mem.tail _ (List.Mem.tail _ (List.Mem.tail _ (List.Mem.head _)))) | exact List.Mem.tail _ (List.Mem.tail _ (List.Mem.tail _ (List.Mem.tail _ (List.Mem.tail _ (List.Mem.head _)))))) rfl ?_
    refine sl_mv rfl rfl rfl ?_
    refine sl_guard_y rfl rfl rfl (rfl) ?_
    refine sl_mv rfl rfl rfl ?_
    refine sl_guard_y rfl rfl rfl (rfl) ?_
    refine sl_mv rfl rfl rfl ?_
    refine sl_guard_y rfl rfl rfl (rfl) ?_
    refine sl_nc rfl rfl rfl rfl ?_
    refine sl_guard_y rfl rfl rfl (rfl) ?_
    first
      | refine sl_fieldAddr_ptr rfl rfl rfl fo_80_0 ?_
      | refine sl_fieldAddr_rp rfl rfl rfl fo_80_0 ?_
      | refine sl_fieldAddr_ref rfl rfl rfl fo_80_0 ?_
    refine sl_guard_y rfl rfl rfl (rfl) ?_
    first
      | refine sl_load_rp1 rfl rfl rfl ag_26 rfl ?_
      | refine sl_load_blk1 rfl rfl rfl ag_26 (by first | exact List.Mem.head _ | exact List.Mem.tail _ (List.Mem.head _) | exact List.Mem.tail _ (List.Mem.tail _ (List.Mem.head _)) | exact List.Mem.tail _ (List.Mem.tail _ (List.Mem.tail _ (List.Mem.head _))) | exact List.Mem.tail _ (List.Mem.tail _ (List.Mem.tail _ (List.Mem.tail _ (List.Mem.head _)))) | exact List.Mem.tail _ (List.Mem.tail _ (List.Mem.tail _ (List.Mem.tail _ (List.Mem.tail _ (List.Mem.head _)))))) rfl ?_
    refine sl_guard_y rfl rfl rfl (rfl) ?_
    first
      | refine sl_len rfl rfl rfl ⟨_, u_26⟩ ?_
      | refine sl_len_sl rfl rfl rfl ⟨_, u_26⟩ ?_
    refine sl_guard_y rfl rfl rfl (rfl) ?_
    refine sl_conv_int rfl rfl rfl is_3 u_37 ?_
    refine sl_set 18 (.val (.int .u64 (r.length : Int))) (len_u64 hr) ?_
    refine sl_guard_y rfl rfl rfl (rfl) ?_
    refine sl_bin rfl rfl rfl rfl rfl ?_
    refine sl_pk_f rfl rfl rfl (rfl) rfl ?_
    refine sl_nil ?_
    refine sw_cond rfl (fun hb => ?_) (fun hb => ?_)
    · have hb : ¬ n ≤ r.length := by have := of_decide_eq_true hb; omega
      refine sw_seq ?_
      refine sl_region ?_
      refine sl_mv rfl rfl rfl ?_
      refine sl_nc rfl rfl rfl rfl ?_
      first
        | refine sl_fieldAddr_ptr rfl rfl rfl fo_80_1 ?_
        | refine sl_fieldAddr_rp rfl rfl rfl fo_80_1 ?_
        | refine sl_fieldAddr_ref rfl rfl rfl fo_80_1 ?_
      first
        | refine sl_st rfl rfl rfl rfl sz_4 rfl rfl rfl (Nat.le_of_ble_eq_true rfl) ?_
        | (refine sl_f1 ?_; refine sl_st rfl rfl rfl rfl sz_4 rfl rfl rfl (Nat.le_of_ble_eq_true rfl) ?_)
        | (refine sl_f2 ?_; refine sl_st rfl rfl rfl rfl sz_4 rfl rfl rfl (Nat.le_of_ble_eq_true rfl) ?_)
        | (refine sl_f3 ?_; refine sl_st rfl rfl rfl rfl sz_4 rfl rfl rfl (Nat.le_of_ble_eq_true rfl) ?_)
        | (refine sl_f4 ?_; refine sl_st rfl rfl rfl rfl sz_4 rfl rfl rfl (Nat.le_of_ble_eq_true rfl) ?_)
        | (refine sl_f5 ?_; refine sl_st rfl rfl rfl rfl sz_4 rfl rfl rfl (Nat.le_of_ble_eq_true rfl) ?_)
        | (refine sl_f6 ?_; refine sl_st rfl rfl rfl rfl sz_4 rfl rfl rfl (Nat.le_of_ble_eq_true rfl) ?_)
      refine sl_nil ?_
      refine sw_seq ?_
      refine sl_region ?_
      refine sl_as rfl rfl rfl ?_
      refine sl_nil ?_
      refine sw_ret ⟨rfl, _, _, res_one rfl rfl, ?_, by rw [rdOf_bad (by rw [decT_of hdec, if_neg hb])]; exact ⟨rfl, _, ⟨r, rfl⟩, rfl⟩⟩
      repeat (first | exact Sub.refl _ | exact Sub.none _ | refine Sub.p0 ?_ | refine Sub.p1 ?_ | refine Sub.p2 ?_ | refine Sub.p3 ?_ | refine Sub.p4 ?_ | refine Sub.p5 ?_ | refine Sub.p6 ?_ | refine Sub.drop ?_)
    · have hb : n ≤ r.length := by have := of_decide_eq_false hb; omega
      refine sw_skip ?_
      refine sw_seq ?_
      refine sl_region ?_
      refine sl_mv rfl rfl rfl ?_
      refine sl_nc rfl rfl rfl rfl ?_
      first
        | refine sl_fieldAddr_ptr rfl rfl rfl fo_80_0 ?_
        | refine sl_fieldAddr_rp rfl rfl rfl fo_80_0 ?_
        | refine sl_fieldAddr_ref rfl rfl rfl fo_80_0 ?_
      first
        | refine sl_load_rp1 rfl rfl rfl ag_26 rfl ?_
        | refine sl_load_blk1 rfl rfl rfl ag_26 (by first | exact List.Mem.head _ | exact List.Mem.tail _ (List.Mem.head _) | exact List.Mem.tail _ (List.Mem.tail _ (List.Mem.head _)) | exact List.Mem.tail _ (List.Mem.tail _ (List.Mem.tail _ (List.Mem.head _))) | exact List.Mem.tail _ (List.Mem.tail _ (List.Mem.tail _ (List.Mem.tail _ (List.Mem.head _)))) | exact List.Mem.tail _ (List.Mem.tail _ (List.Mem.tail _ (List.Mem.tail _ (List.Mem.tail _ (List.Mem.head _)))))) rfl ?_
      refine sl_mv rfl rfl rfl ?_
      refine sl_slice_list 0 n rfl rfl rfl u_26 sz_5 (fun x hx => ((show Sized _ _ by repeat (first | exact sized_nil | exact sized_map (fun _ => ⟨rfl, rfl⟩) | refine sized_cons rfl rfl ?_ | refine sized_append ?_ ?_ | assumption)) x hx).1) rfl ⟨_, rfl⟩ (Nat.zero_le _) (by simp; omega) ?_
      refine sl_set 29 (.val (.list ((r.take n).map byteV))) (take_bytes r n) ?_
      refine sl_bytes_str rfl rfl rfl u_26 u_5 u_9 ?_
      refine sl_as rfl rfl rfl ?_
      refine sl_nil ?_
      refine sw_seq ?_
      refine sl_region ?_
      refine sl_mv rfl rfl rfl ?_
      refine sl_mv rfl rfl rfl ?_
      refine sl_nc rfl rfl rfl rfl ?_
      first
        | refine sl_fieldAddr_ptr rfl rfl rfl fo_80_0 ?_
        | refine sl_fieldAddr_rp rfl rfl rfl fo_80_0 ?_
        | refine sl_fieldAddr_ref rfl rfl rfl fo_80_0 ?_
      first
        | refine sl_load_rp1 rfl rfl rfl ag_26 rfl ?_
        | refine sl_load_blk1 rfl rfl rfl ag_26 (by first | exact List.Mem.head _ | exact List.Mem.tail _ (List.Mem.head _) | exact List.Mem.tail _ (List.Mem.tail _ (List.Mem.head _)) | exact List.Mem.tail _ (List.Mem.tail _ (List.Mem.tail _ (List.Mem.head _))) | exact List.Mem.tail _ (List.Mem.tail _ (List.Mem.tail _ (List.Mem.tail _ (List.Mem.head _)))) | exact List.Mem.tail _ (List.Mem.tail _ (List.Mem.tail _ (List.Mem.tail _ (List.Mem.tail _ (List.Mem.head _)))))) rfl ?_
      refine sl_mv rfl rfl rfl ?_
      refine sl_slice_list n _ rfl rfl rfl u_26 sz_5 (fun x hx => ((show Sized _ _ by repeat (first | exact sized_nil | exact sized_map (fun _ => ⟨rfl, rfl⟩) | refine sized_cons rfl rfl ?_ | refine sized_append ?_ ?_ | assumption)) x hx).1) ⟨_, rfl⟩ rfl (by simp; omega) (Nat.le_refl _) ?_
      refine sl_set 37 (.val (.list ((r.drop n).map byteV))) (drop_bytes r n) ?_
      refine sl_nc rfl rfl rfl rfl ?_
      first
        | refine sl_fieldAddr_ptr rfl rfl rfl fo_80_0 ?_
        | refine sl_fieldAddr_rp rfl rfl rfl fo_80_0 ?_
        | refine sl_fieldAddr_ref rfl rfl rfl fo_80_0 ?_
      first
        | refine sl_st rfl rfl rfl rfl sz_26 rfl rfl rfl (Nat.le_of_ble_eq_true rfl) ?_
        | (refine sl_f1 ?_; refine sl_st rfl rfl rfl rfl sz_26 rfl rfl rfl (Nat.le_of_ble_eq_true rfl) ?_)
        | (refine sl_f2 ?_; refine sl_st rfl rfl rfl rfl sz_26 rfl rfl rfl (Nat.le_of_ble_eq_true rfl) ?_)
        | (refine sl_f3 ?_; refine sl_st rfl rfl rfl rfl sz_26 rfl rfl rfl (Nat.le_of_ble_eq_true rfl) ?_)
        | (refine sl_f4 ?_; refine sl_st rfl rfl rfl rfl sz_26 rfl rfl rfl (Nat.le_of_ble_eq_true rfl) ?_)
        | (refine sl_f5 ?_; refine sl_st rfl rfl rfl rfl sz_26 rfl rfl rfl (Nat.le_of_ble_eq_true rfl) ?_)
        | (refine sl_f6 ?_; refine sl_st rfl rfl rfl rfl sz_26 rfl rfl rfl (Nat.le_of_ble_eq_true rfl) ?_)
      refine sl_nil ?_
      refine sw_seq ?_
      refine sl_region ?_
      refine sl_mv rfl rfl rfl ?_
      refine sl_as rfl rfl rfl ?_
      refine sl_nil ?_
      refine sw_ret ⟨rfl, _, _, res_one rfl rfl, ?_, by rw [rdOf_good (by rw [decT_of hdec, if_pos hb])]; exact ⟨rfl, _, ⟨rfl, by rw [List.length_drop]; omega⟩, rfl⟩⟩
      repeat (first | exact Sub.refl _ | exact Sub.none _ | refine Sub.p0 ?_ | refine Sub.p1 ?_ | refine Sub.p2 ?_ | refine Sub.p3 ?_ | refine Sub.p4 ?_ | refine Sub.p5 ?_ | refine Sub.p6 ?_ | refine Sub.drop ?_)

theorem ytext_bad (q : Nat) (l : List UInt8) (σ : List Chunk) : FSpec Try.prog 42 [.ptr q 0] (rd q l true :: σ) (fun d σ' => d = .val (strV []) ∧ σ' = rd q l true :: σ) := by
  refine spec_of_sw Try.func42 rfl ?_
  refine sw_seq ?_
  refine sl_region ?_
  refine sl_as rfl rfl rfl ?_
  refine sl_nil ?_
  refine sw_seq ?_
  refine sl_region ?_
  refine sl_mv rfl rfl rfl ?_
  refine sl_callf rfl rfl cal_40 (ynum_bad q l σ) ?_ ?_ ?_ (fun _ _ h => h.elim)
  · repeat (first | exact Weaks.nil | refine Weaks.cons (Weak.junk _) ?_ | refine Weaks.cons (Weak.refl _) ?_ | refine Weaks.cons (Weak.toV rfl) ?_ | refine Weaks.cons (Weak.ref _) ?_ | refine Weaks.cons (Weak.rp_agg _) ?_)
  · repeat (first | exact Sub.refl _ | exact Sub.none _ | refine Sub.p0 ?_ | refine Sub.p1 ?_ | refine Sub.p2 ?_ | refine Sub.p3 ?_ | refine Sub.p4 ?_ | refine Sub.p5 ?_ | refine Sub.p6 ?_ | refine Sub.drop ?_)
  rintro _ _ ⟨rfl, rfl⟩
  refine sl_as rfl rfl rfl ?_
  refine sl_nil ?_
  refine sw_seq ?_
  refine sw_seq ?_
  refine sl_region ?_
  refine sl_mv rfl rfl rfl ?_
  refine sl_nc rfl rfl rfl rfl ?_
  first
    | refine sl_fieldAddr_ptr rfl rfl rfl fo_80_1 ?_
    | refine sl_fieldAddr_rp rfl rfl rfl fo_80_1 ?_
    | refine sl_fieldAddr_ref rfl rfl rfl fo_80_1 ?_
  first
    | refine sl_load_rp1 rfl rfl rfl ag_4 rfl ?_
    | refine sl_load_blk1 rfl rfl rfl ag_4 (by first | exact List.Mem.head _ | exact List.Mem.tail _ (List.Mem.head _) | exact List.Mem.tail _ (List.Mem.tail _ (List.Mem.head _)) | exact List.Mem.tail _ (List.Mem.tail _ (List.Mem.tail _ (List.Mem.head _))) | exact List.Mem.tail _ (List.Mem.tail _ (List.Mem.tail _ (List.Mem.tail _ (List.Mem.head _)))) | exact List.Mem.tail _ (List.Mem.tail _ (List.Mem.tail _ (List.Mem.tail _ (List.Mem.tail _ (List.Mem.head _)))))) rfl ?_
  refine sl_mv rfl rfl rfl ?_
  refine sl_guard_n rfl rfl rfl (rfl) ?_
  refine sl_guard_n rfl rfl rfl (rfl) ?_
  refine sl_guard_n rfl rfl rfl (rfl) ?_
  refine sl_guard_n rfl rfl rfl (rfl) ?_
  refine sl_guard_n rfl rfl rfl (rfl) ?_
  refine sl_guard_n rfl rfl rfl (rfl) ?_
  refine sl_guard_n rfl rfl rfl (rfl) ?_
  refine sl_guard_n rfl rfl rfl (rfl) ?_
  refine sl_pk_t rfl rfl rfl (rfl) rfl ?_
  refine sl_nil ?_
  refine sw_true rfl (rfl) ?_
  refine sw_seq ?_
  refine sl_region ?_
  refine sl_mv rfl rfl rfl ?_
  refine sl_nc rfl rfl rfl rfl ?_
  first
    | refine sl_fieldAddr_ptr rfl rfl rfl fo_80_1 ?_
    | refine sl_fieldAddr_rp rfl rfl rfl fo_80_1 ?_
    | refine sl_fieldAddr_ref rfl rfl rfl fo_80_1 ?_
  first
    | refine sl_st rfl rfl rfl rfl sz_4 rfl rfl rfl (Nat.le_of_ble_eq_true rfl) ?_
    | (refine sl_f1 ?_; refine sl_st rfl rfl rfl rfl sz_4 rfl rfl rfl (Nat.le_of_ble_eq_true rfl) ?_)
    | (refine sl_f2 ?_; refine sl_st rfl rfl rfl rfl sz_4 rfl rfl rfl (Nat.le_of_ble_eq_true rfl) ?_)
    | (refine sl_f3 ?_; refine sl_st rfl rfl rfl rfl sz_4 rfl rfl rfl (Nat.le_of_ble_eq_true rfl) ?_)
    | (refine sl_f4 ?_; refine sl_st rfl rfl rfl rfl sz_4 rfl rfl rfl (Nat.le_of_ble_eq_true rfl) ?_)
    | (refine sl_f5 ?_; refine sl_st rfl rfl rfl rfl sz_4 rfl rfl rfl (Nat.le_of_ble_eq_true rfl) ?_)
    | (refine sl_f6 ?_; refine sl_st rfl rfl rfl rfl sz_4 rfl rfl rfl (Nat.le_of_ble_eq_true rfl) ?_)
  refine sl_nil ?_
  refine sw_seq ?_
  refine sl_region ?_
  refine sl_as rfl rfl rfl ?_
  refine sl_nil ?_
  refine sw_ret ⟨rfl, _, _, res_one rfl rfl, ?_, ⟨rfl, rfl⟩⟩
  repeat (first | exact Sub.refl _ | exact Sub.none _ | refine Sub.p0 ?_ | refine Sub.p1 ?_ | refine Sub.p2 ?_ | refine Sub.p3 ?_ | refine Sub.p4 ?_ | refine Sub.p5 ?_ | refine Sub.p6 ?_ | refine Sub.drop ?_)

theorem ytext_ok (q : Nat) (st : Option (List UInt8)) (c : Chunk) (σ : List Chunk) (h : Rdr q st c) :
    FSpec Try.prog 42 [.ptr q 0] (c :: σ) (fun d σ' => d = .val (strV (rdOf decT [] st).1) ∧ ∃ c', Rdr q (rdOf decT [] st).2 c' ∧ σ' = c' :: σ) := by
  cases st with
  | some l => obtain ⟨rfl, hl⟩ := h; exact ytext_good q l σ hl
  | none => obtain ⟨r, rfl⟩ := h; exact (ytext_bad q r σ).mono fun d σ' h => ⟨h.1, _, ⟨r, rfl⟩, h.2⟩

theorem ybool_good (q : Nat) (l : List UInt8) (σ : List Chunk) (hl : l.length ≤ 100000000) :
    FSpec Try.prog 43 [.ptr q 0] (rd q l false :: σ) (fun d σ' => d = .val (boolV (rdOf decB false (some l)).1) ∧ ∃ c', Rdr q (rdOf decB false (some l)).2 c' ∧ σ' = c' :: σ) := by
  refine spec_of_sw Try.func43 rfl ?_
  refine sw_seq ?_
  refine sl_region ?_
  refine sl_as rfl rfl rfl ?_
  refine sl_nil ?_
  refine sw_seq ?_
  refine sw_seq ?_
  refine sl_region ?_
  refine sl_mv rfl rfl rfl ?_
  refine sl_nc rfl rfl rfl rfl ?_
  first
    | refine sl_fieldAddr_ptr rfl rfl rfl fo_80_1 ?_
    | refine sl_fieldAddr_rp rfl rfl rfl fo_80_1 ?_
    | refine sl_fieldAddr_ref rfl rfl rfl fo_80_1 ?_
  first
    | refine sl_load_rp1 rfl rfl rfl ag_4 rfl ?_
    | refine sl_load_blk1 rfl rfl rfl ag_4 (by first | exact List.Mem.head _ | exact List.Mem.tail _ (List.Mem.head _) | exact List.Mem.tail _ (List.Mem.tail _ (List.Mem.head _)) | exact List.Mem.tail _ (List.Mem.tail _ (List.Mem.tail _ (List.Mem.head _))) | exact List.Mem.tail _ (List.Mem.tail _ (List.Mem.tail _ (List.Mem.tail _ (List.Mem.head _)))) | exact List.Mem.tail _ (List.Mem.tail _ (List.Mem.tail _ (List.Mem.tail _ (List.Mem.tail _ (List.Mem.head _)))))) rfl ?_
  refine sl_mv rfl rfl rfl ?_
  refine sl_guard_y rfl rfl rfl (rfl) ?_
  refine sl_mv rfl rfl rfl ?_
  refine sl_guard_y rfl rfl rfl (rfl) ?_
  refine sl_nc rfl rfl rfl rfl ?_
  refine sl_guard_y rfl rfl rfl (rfl) ?_
  first
    | refine sl_fieldAddr_ptr rfl rfl rfl fo_80_0 ?_
    | refine sl_fieldAddr_rp rfl rfl rfl fo_80_0 ?_
    | refine sl_fieldAddr_ref rfl rfl rfl fo_80_0 ?_
  refine sl_guard_y rfl rfl rfl (rfl) ?_
  first
    | refine sl_load_rp1 rfl rfl rfl ag_26 rfl ?_
    | refine sl_load_blk1 rfl rfl rfl ag_26 (by first | exact List.Mem.head _ | exact List.Mem.tail _ (List.Mem.head _) | exact List.Mem.tail _ (List.Mem.tail _ (List.Mem.head _)) | exact List.Mem.tail _ (List.Mem.tail _ (List.Mem.tail _ (List.Mem.head _))) | exact List.Mem.tail _ (List.Mem.tail _ (List.Mem.tail _ (List.Mem.tail _ (List.Mem.head _)))) | exact List.Mem.tail _ (List.Mem.tail _ (List.Mem.tail _ (List.Mem.tail _ (List.Mem.tail _ (List.Mem.head _)))))) rfl ?_
  refine sl_guard_y rfl rfl rfl (rfl) ?_
  first
    | refine sl_len rfl rfl rfl ⟨_, u_26⟩ ?_
    | refine sl_len_sl rfl rfl rfl ⟨_, u_26⟩ ?_
  refine sl_guard_y rfl rfl rfl (rfl) ?_
  refine sl_bin rfl rfl rfl rfl rfl ?_
  refine sl_pk_f rfl rfl rfl (rfl) rfl ?_
  refine sl_mv rfl rfl rfl ?_
  refine sl_case_at 16 rfl (fun hc => ?_) (fun hc => ?_)
  · have hm : l = [] := by
      have := eq_of_beq hc
      rw [List.length_map] at this
      exact List.eq_nil_of_length_eq_zero (by omega)
    refine sl_guard_n rfl rfl rfl hc ?_
    refine sl_guard_n rfl rfl rfl hc ?_
    refine sl_guard_n rfl rfl rfl hc ?_
    refine sl_guard_n rfl rfl rfl hc ?_
    refine sl_guard_n rfl rfl rfl hc ?_
    refine sl_guard_n rfl rfl rfl hc ?_
    refine sl_guard_n rfl rfl rfl hc ?_
    refine sl_pk_t rfl rfl rfl hc rfl ?_
    refine sl_nil ?_
    refine sw_true rfl (rfl) ?_
    refine sw_seq ?_
    refine sl_region ?_
    refine sl_mv rfl rfl rfl ?_
    refine sl_nc rfl rfl rfl rfl ?_
    first
      | refine sl_fieldAddr_ptr rfl rfl rfl fo_80_1 ?_
      | refine sl_fieldAddr_rp rfl rfl rfl fo_80_1 ?_
      | refine sl_fieldAddr_ref rfl rfl rfl fo_80_1 ?_
    first
      | refine sl_st rfl rfl rfl rfl sz_4 rfl rfl rfl (Nat.le_of_ble_eq_true rfl) ?_
      | (refine sl_f1 ?_; refine sl_st rfl rfl rfl rfl sz_4 rfl rfl rfl (Nat.le_of_ble_eq_true rfl) ?_)
      | (refine sl_f2 ?_; refine sl_st rfl rfl rfl rfl sz_4 rfl rfl rfl (Nat.le_of_ble_eq_true rfl) ?_)
      | (refine sl_f3 ?_; refine sl_st rfl rfl rfl rfl sz_4 rfl rfl rfl (Nat.le_of_ble_eq_true rfl) ?_)
      | (refine sl_f4 ?_; refine sl_st rfl rfl rfl rfl sz_4 rfl rfl rfl (Nat.le_of_ble_eq_true rfl) ?_)
      | (refine sl_f5 ?_; refine sl_st rfl rfl rfl rfl sz_4 rfl rfl rfl (Nat.le_of_ble_eq_true rfl) ?_)
      | (refine sl_f6 ?_; refine sl_st rfl rfl rfl rfl sz_4 rfl rfl rfl (Nat.le_of_ble_eq_true rfl) ?_)
    refine sl_nil ?_
    refine sw_seq ?_
    refine sl_region ?_
    refine sl_as rfl rfl rfl ?_
    refine sl_nil ?_
    refine sw_ret ⟨rfl, _, _, res_one rfl rfl, ?_, by rw [rdOf_bad (by rw [hm]; rfl)]; exact ⟨rfl, _, ⟨l, rfl⟩, rfl⟩⟩
    repeat (first | exact Sub.refl _ | exact Sub.none _ | refine Sub.p0 ?_ | refine Sub.p1 ?_ | refine Sub.p2 ?_ | refine Sub.p3 ?_ | refine Sub.p4 ?_ | refine Sub.p5 ?_ | refine Sub.p6 ?_ | refine Sub.drop ?_)
  · obtain ⟨x, m, rfl⟩ : ∃ x m, l = x :: m := by
      cases l with
      | nil => simp at hc
      | cons x m => exact ⟨x, m, rfl⟩
    refine sl_guard_y rfl rfl rfl hc ?_
    refine sl_mv rfl rfl rfl ?_
    refine sl_guard_y rfl rfl rfl hc ?_
    refine sl_nc rfl rfl rfl rfl ?_
    refine sl_guard_y rfl rfl rfl hc ?_
    first
      | refine sl_fieldAddr_ptr rfl rfl rfl fo_80_0 ?_
      | refine sl_fieldAddr_rp rfl rfl rfl fo_80_0 ?_
      | refine sl_fieldAddr_ref rfl rfl rfl fo_80_0 ?_
    refine sl_guard_y rfl rfl rfl hc ?_
    first
      | refine sl_load_rp1 rfl rfl rfl ag_26 rfl ?_
      | refine sl_load_blk1 rfl rfl rfl ag_26 (by first | exact List.Mem.head _ | exact List.Mem.tail _ (List.Mem.head _) | exact List.Mem.tail _ (List.Mem.tail _ (List.Mem.head _)) | exact List.Mem.tail _ (List.Mem.tail _ (List.Mem.tail _ (List.Mem.head _))) | exact List.Mem.tail _ (List.Mem.tail _ (List.Mem.tail _ (List.Mem.tail _ (List.Mem.head _)))) | exact List.Mem.tail _ (List.Mem.tail _ (List.Mem.tail _ (List.Mem.tail _ (List.Mem.tail _ (List.Mem.head _)))))) rfl ?_
    refine sl_guard_y rfl rfl rfl hc ?_
    refine sl_indexAddr' rfl rfl rfl rfl u_26 sz_5 (by decide) rfl rfl ?_
    refine sl_guard_y rfl rfl rfl hc ?_
    first
      | refine sl_load_rp1 rfl rfl rfl ag_5 rfl ?_
      | refine sl_load_blk1 rfl rfl rfl ag_5 (by first | exact List.Mem.head _ | exact List.Mem.tail _ (List.Mem.head _) | exact List.Mem.tail _ (List.Mem.tail _ (List.Mem.head _)) | exact List.Mem.tail _ (List.Mem.tail _ (List.Mem.tail _ (List.Mem.head _))) | exact List.Mem.tail _ (List.Mem.tail _ (List.Mem.tail _ (List.Mem.tail _ (List.Mem.head _)))) | exact List.Mem.tail _ (List.Mem.tail _ (List.Mem.tail _ (List.Mem.tail _ (List.Mem.tail _ (List.Mem.head _)))))) rfl ?_
    refine sl_guard_y rfl rfl rfl hc ?_
    refine sl_bin rfl rfl rfl rfl rfl ?_
    refine sl_pk_f rfl rfl rfl hc rfl ?_
    refine sl_nil ?_
    refine sw_cond rfl (fun hb => ?_) (fun hb => ?_)
    · have hb : ¬ x.toNat ≤ 1 := by have := of_decide_eq_true hb; omega
      refine sw_seq ?_
      refine sl_region ?_
      refine sl_mv rfl rfl rfl ?_
      refine sl_nc rfl rfl rfl rfl ?_
      first
        | refine sl_fieldAddr_ptr rfl rfl rfl fo_80_1 ?_
        | refine sl_fieldAddr_rp rfl rfl rfl fo_80_1 ?_
        | refine sl_fieldAddr_ref rfl rfl rfl fo_80_1 ?_
      first
        | refine sl_st rfl rfl rfl rfl sz_4 rfl rfl rfl (Nat.le_of_ble_eq_true rfl) ?_
        | (refine sl_f1 ?_; refine sl_st rfl rfl rfl rfl sz_4 rfl rfl rfl (Nat.le_of_ble_eq_true rfl) ?_)
        | (refine sl_f2 ?_; refine sl_st rfl rfl rfl rfl sz_4 rfl rfl rfl (Nat.le_of_ble_eq_true rfl) ?_)
        | (refine sl_f3 ?_; refine sl_st rfl rfl rfl rfl sz_4 rfl rfl rfl (Nat.le_of_ble_eq_true rfl) ?_)
        | (refine sl_f4 ?_; refine sl_st rfl rfl rfl rfl sz_4 rfl rfl rfl (Nat.le_of_ble_eq_true rfl) ?_)
        | (refine sl_f5 ?_; refine sl_st rfl rfl rfl rfl sz_4 rfl rfl rfl (Nat.le_of_ble_eq_true rfl) ?_)
        | (refine sl_f6 ?_; refine sl_st rfl rfl rfl rfl sz_4 rfl rfl rfl (Nat.le_of_ble_eq_true rfl) ?_)
      refine sl_nil ?_
      refine sw_seq ?_
      refine sl_region ?_
      refine sl_as rfl rfl rfl ?_
      refine sl_nil ?_
      refine sw_ret ⟨rfl, _, _, res_one rfl rfl, ?_, by rw [rdOf_bad (if_neg hb)]; exact ⟨rfl, _, ⟨x :: m, rfl⟩, rfl⟩⟩
      repeat (first | exact Sub.refl _ | exact Sub.none _ | refine Sub.p0 ?_ | refine Sub.p1 ?_ | refine Sub.p2 ?_ | refine Sub.p3 ?_ | refine Sub.p4 ?_ | refine Sub.p5 ?_ | refine Sub.p6 ?_ | refine Sub.drop ?_)
    · have hb : x.toNat ≤ 1 := by have := of_decide_eq_false hb; omega
      refine sw_skip ?_
      refine sw_seq ?_
      refine sl_region ?_
      refine sl_mv rfl rfl rfl ?_
      refine sl_nc rfl rfl rfl rfl ?_
      first
        | refine sl_fieldAddr_ptr rfl rfl rfl fo_80_0 ?_
        | refine sl_fieldAddr_rp rfl rfl rfl fo_80_0 ?_
        | refine sl_fieldAddr_ref rfl rfl rfl fo_80_0 ?_
      first
        | refine sl_load_rp1 rfl rfl rfl ag_26 rfl ?_
        | refine sl_load_blk1 rfl rfl rfl ag_26 (by first | exact List.Mem.head _ | exact List.Mem.tail _ (List.Mem.head _) | exact List.Mem.tail _ (List.Mem.tail _ (List.Mem.head _)) | exact List.Mem.tail _ (List.Mem.tail _ (List.Mem.tail _ (List.Mem.head _))) | exact List.Mem.tail _ (List.Mem.tail _ (List.Mem.tail _ (List.Mem.tail _ (List.Mem.head _)))) | exact List.Mem.tail _ (List.Mem.tail _ (List.Mem.tail _ (List.Mem.tail _ (List.Mem.tail _ (List.Mem.head _)))))) rfl ?_
      refine sl_indexAddr' rfl rfl rfl rfl u_26 sz_5 (by decide) rfl rfl ?_
      first
        | refine sl_load_rp1 rfl rfl rfl ag_5 rfl ?_
        | refine sl_load_blk1 rfl rfl rfl ag_5 (by first | exact List.Mem.head _ | exact List.Mem.tail _ (List.Mem.head _) | exact List.Mem.tail _ (List.Mem.tail _ (List.Mem.head _)) | exact List.Mem.tail _ (List.Mem.tail _ (List.Mem.tail _ (List.Mem.head _))) | exact List.Mem.tail _ (List.Mem.tail _ (List.Mem.tail _ (List.Mem.tail _ (List.Mem.head _)))) | exact List.Mem.tail _ (List.Mem.tail _ (List.Mem.tail _ (List.Mem.tail _ (List.Mem.tail _ (List.Mem.head _)))))) rfl ?_
      refine sl_bin rfl rfl rfl rfl rfl ?_
      refine sl_set 34 (.val (boolV (x.toNat == 1))) (is_one x) ?_
      refine sl_as rfl rfl rfl ?_
      refine sl_nil ?_
      refine sw_seq ?_
      refine sl_region ?_
      refine sl_mv rfl rfl rfl ?_
      refine sl_mv rfl rfl rfl ?_
      refine sl_nc rfl rfl rfl rfl ?_
      first
        | refine sl_fieldAddr_ptr rfl rfl rfl fo_80_0 ?_
        | refine sl_fieldAddr_rp rfl rfl rfl fo_80_0 ?_
        | refine sl_fieldAddr_ref rfl rfl rfl fo_80_0 ?_
      first
        | refine sl_load_rp1 rfl rfl rfl ag_26 rfl ?_
        | refine sl_load_blk1 rfl rfl rfl ag_26 (by first | exact List.Mem.head _ | exact List.Mem.tail _ (List.Mem.head _) | exact List.Mem.tail _ (List.Mem.tail _ (List.Mem.head _)) | exact List.Mem.tail _ (List.Mem.tail _ (List.Mem.tail _ (List.Mem.head _))) | exact List.Mem.tail _ (List.Mem.tail _ (List.Mem.tail _ (List.Mem.tail _ (List.Mem.head _)))) | exact List.Mem.tail _ (List.Mem.tail _ (List.Mem.tail _ (List.Mem.tail _ (List.Mem.tail _ (List.Mem.head _)))))) rfl ?_
      refine sl_slice_list 1 _ rfl rfl rfl u_26 sz_5 (fun x hx => ((show Sized _ _ by repeat (first | exact sized_nil | exact sized_map (fun _ => ⟨rfl, rfl⟩) | refine sized_cons rfl rfl ?_ | refine sized_append ?_ ?_ | assumption)) x hx).1) ⟨_, rfl⟩ rfl (by simp) (Nat.le_refl _) ?_
      refine sl_set 40 (.val (.list (m.map byteV))) (drop_one x m) ?_
      refine sl_nc rfl rfl rfl rfl ?_
      first
        | refine sl_fieldAddr_ptr rfl rfl rfl fo_80_0 ?_
        | refine sl_fieldAddr_rp rfl rfl rfl fo_80_0 ?_
        | refine sl_fieldAddr_ref rfl rfl rfl fo_80_0 ?_
      first
        | refine sl_st rfl rfl rfl rfl sz_26 rfl rfl rfl (Nat.le_of_ble_eq_true rfl) ?_
        | (refine sl_f1 ?_; refine sl_st rfl rfl rfl rfl sz_26 rfl rfl rfl (Nat.le_of_ble_eq_true rfl) ?_)
        | (refine sl_f2 ?_; refine sl_st rfl rfl rfl rfl sz_26 rfl rfl rfl (Nat.le_of_ble_eq_true rfl) ?_)
        | (refine sl_f3 ?_; refine sl_st rfl rfl rfl rfl sz_26 rfl rfl rfl (Nat.le_of_ble_eq_true rfl) ?_)
        | (refine sl_f4 ?_; refine sl_st rfl rfl rfl rfl sz_26 rfl rfl rfl (Nat.le_of_ble_eq_true rfl) ?_)
        | (refine sl_f5 ?_; refine sl_st rfl rfl rfl rfl sz_26 rfl rfl rfl (Nat.le_of_ble_eq_true rfl) ?_)
        | (refine sl_f6 ?_; refine sl_st rfl rfl rfl rfl sz_26 rfl rfl rfl (Nat.le_of_ble_eq_true rfl) ?_)
      refine sl_nil ?_
      refine sw_seq ?_
      refine sl_region ?_
      refine sl_mv rfl rfl rfl ?_
      refine sl_as rfl rfl rfl ?_
      refine sl_nil ?_
      refine sw_ret ⟨rfl, _, _, res_one rfl rfl, ?_, by rw [rdOf_good (if_pos hb)]; exact ⟨rfl, _, ⟨rfl, by simp at hl; omega⟩, rfl⟩⟩
      repeat (first | exact Sub.refl _ | exact Sub.none _ | refine Sub.p0 ?_ | refine Sub.p1 ?_ | refine Sub.p2 ?_ | refine Sub.p3 ?_ | refine Sub.p4 ?_ | refine Sub.p5 ?_ | refine Sub.p6 ?_ | refine Sub.drop ?_)

theorem ybool_bad (q : Nat) (l : List UInt8) (σ : List Chunk) : FSpec Try.prog 43 [.ptr q 0] (rd q l true :: σ) (fun d σ' => d = .val (boolV false) ∧ σ' = rd q l true :: σ) := by
  refine spec_of_sw Try.func43 rfl ?_
  refine sw_seq ?_
  refine sl_region ?_
  refine sl_as rfl rfl rfl ?_
  refine sl_nil ?_
  refine sw_seq ?_
  refine sw_seq ?_
  refine sl_region ?_
  refine sl_mv rfl rfl rfl ?_
  refine sl_nc rfl rfl rfl rfl ?_
  first
    | refine sl_fieldAddr_ptr rfl rfl rfl fo_80_1 ?_
    | refine sl_fieldAddr_rp rfl rfl rfl fo_80_1 ?_
    | refine sl_fieldAddr_ref rfl rfl rfl fo_80_1 ?_
  first
    | refine sl_load_rp1 rfl rfl rfl ag_4 rfl ?_
    | refine sl_load_blk1 rfl rfl rfl ag_4 (by first | exact List.Mem.head _ | exact List.Mem.tail _ (List.Mem.head _) | exact List.Mem.tail _ (List.Mem.tail _ (List.Mem.head _)) | exact List.Mem.tail _ (List.Mem.tail _ (List.Mem.tail _ (List.Mem.head _))) | exact List.Mem.tail _ (List.Mem.tail _ (List.Mem.tail _ (List.Mem.tail _ (List.Mem.head _)))) | exact List.Mem.tail _ (List.Mem.tail _ (List.Mem.tail _ (List.Mem.tail _ (List.Mem.tail _ (List.Mem.head _)))))) rfl ?_
  refine sl_mv rfl rfl rfl ?_
  refine sl_guard_n rfl rfl rfl (rfl) ?_
  refine sl_guard_n rfl rfl rfl (rfl) ?_
  refine sl_guard_n rfl rfl rfl (rfl) ?_
  refine sl_guard_n rfl rfl rfl (rfl) ?_
  refine sl_guard_n rfl rfl rfl (rfl) ?_
  refine sl_guard_n rfl rfl rfl (rfl) ?_
  refine sl_pk_t rfl rfl rfl (rfl) rfl ?_
  refine sl_mv rfl rfl rfl ?_
  refine sl_guard_n rfl rfl rfl (rfl) ?_
  refine sl_guard_n rfl rfl rfl (rfl) ?_
  refine sl_guard_n rfl rfl rfl (rfl) ?_
  refine sl_guard_n rfl rfl rfl (rfl) ?_
  refine sl_guard_n rfl rfl rfl (rfl) ?_
  refine sl_guard_n rfl rfl rfl (rfl) ?_
  refine sl_guard_n rfl rfl rfl (rfl) ?_
  refine sl_pk_t rfl rfl rfl (rfl) rfl ?_
  refine sl_nil ?_
  refine sw_true rfl (rfl) ?_
  refine sw_seq ?_
  refine sl_region ?_
  refine sl_mv rfl rfl rfl ?_
  refine sl_nc rfl rfl rfl rfl ?_
  first
    | refine sl_fieldAddr_ptr rfl rfl rfl fo_80_1 ?_
    | refine sl_fieldAddr_rp rfl rfl rfl fo_80_1 ?_
    | refine sl_fieldAddr_ref rfl rfl rfl fo_80_1 ?_
  first
    | refine sl_st rfl rfl rfl rfl sz_4 rfl rfl rfl (Nat.le_of_ble_eq_true rfl) ?_
    | (refine sl_f1 ?_; refine sl_st rfl rfl rfl rfl sz_4 rfl rfl rfl (Nat.le_of_ble_eq_true rfl) ?_)
    | (refine sl_f2 ?_; refine sl_st rfl rfl rfl rfl sz_4 rfl rfl rfl (Nat.le_of_ble_eq_true rfl) ?_)
    | (refine sl_f3 ?_; refine sl_st rfl rfl rfl rfl sz_4 rfl rfl rfl (Nat.le_of_ble_eq_true rfl) ?_)
    | (refine sl_f4 ?_; refine sl_st rfl rfl rfl rfl sz_4 rfl rfl rfl (Nat.le_of_ble_eq_true rfl) ?_)
    | (refine sl_f5 ?_; refine sl_st rfl rfl rfl rfl sz_4 rfl rfl rfl (Nat.le_of_ble_eq_true rfl) ?_)
    | (refine sl_f6 ?_; refine sl_st rfl rfl rfl rfl sz_4 rfl rfl rfl (Nat.le_of_ble_eq_true rfl) ?_)
  refine sl_nil ?_
  refine sw_seq ?_
  refine sl_region ?_
  refine sl_as rfl rfl rfl ?_
  refine sl_nil ?_
  refine sw_ret ⟨rfl, _, _, res_one rfl rfl, ?_, ⟨rfl, rfl⟩⟩
  repeat (first | exact Sub.refl _ | exact Sub.none _ | refine Sub.p0 ?_ | refine Sub.p1 ?_ | refine Sub.p2 ?_ | refine Sub.p3 ?_ | refine Sub.p4 ?_ | refine Sub.p5 ?_ | refine Sub.p6 ?_ | refine Sub.drop ?_)

theorem ybool_ok (q : Nat) (st : Option (List UInt8)) (c : Chunk) (σ : List Chunk) (h : Rdr q st c) :
    FSpec Try.prog 43 [.ptr q 0] (c :: σ) (fun d σ' => d = .val (boolV (rdOf decB false st).1) ∧ ∃ c', Rdr q (rdOf decB false st).2 c' ∧ σ' = c' :: σ) := by
  cases st with
  | some l => obtain ⟨rfl, hl⟩ := h; exact ybool_good q l σ hl
  | none => obtain ⟨r, rfl⟩ := h; exact (ybool_bad q r σ).mono fun d σ' h => ⟨h.1, _, ⟨r, rfl⟩, h.2⟩

theorem ysmall_good (q : Nat) (l : List UInt8) (σ : List Chunk) (hl : l.length ≤ 100000000) :
    FSpec Try.prog 90 [.ptr q 0] (rd q l false :: σ) (fun d σ' => d = .val (i64V (rdOf decS 0 (some l)).1) ∧ ∃ c', Rdr q (rdOf decS 0 (some l)).2 c' ∧ σ' = c' :: σ) := by
  refine spec_of_sw Try.func90 rfl ?_
  refine sw_seq ?_
  refine sl_region ?_
  refine sl_as rfl rfl rfl ?_
  refine sl_nil ?_
  refine sw_seq ?_
  refine sl_region ?_
  refine sl_mv rfl rfl rfl ?_
  refine sl_callf rfl rfl cal_82 (yint_ok q (some l) (rd q l false) σ ⟨rfl, hl⟩) ?_ ?_ ?_ (fun _ _ h => h.elim)
  · repeat (first | exact Weaks.nil | refine Weaks.cons (Weak.junk _) ?_ | refine Weaks.cons (Weak.refl _) ?_ | refine Weaks.cons (Weak.toV rfl) ?_ | refine Weaks.cons (Weak.ref _) ?_ | refine Weaks.cons (Weak.rp_agg _) ?_)
  · repeat (first | exact Sub.refl _ | exact Sub.none _ | refine Sub.p0 ?_ | refine Sub.p1 ?_ | refine Sub.p2 ?_ | refine Sub.p3 ?_ | refine Sub.p4 ?_ | refine Sub.p5 ?_ | refine Sub.p6 ?_ | refine Sub.drop ?_)
  rintro _ _ ⟨rfl, c2, h2, rfl⟩
  rcases hdec : decI l with _ | ⟨n, r⟩
  · rw [rdOf_bad hdec] at h2 ⊢
    obtain ⟨r, rfl⟩ := h2
    refine sl_as rfl rfl rfl ?_
    refine sl_nil ?_
    refine sw_seq ?_
    refine sw_seq ?_
    refine sl_region ?_
    refine sl_mv rfl rfl rfl ?_
    refine sl_bin rfl rfl rfl rfl rfl ?_
    refine sl_mv rfl rfl rfl ?_
    refine sl_guard_y rfl rfl rfl (rfl) ?_
    refine sl_mv rfl rfl rfl ?_
    refine sl_guard_y rfl rfl rfl (rfl) ?_
    refine sl_bin rfl rfl rfl rfl rfl ?_
    refine sl_pk_f rfl rfl rfl (rfl) rfl ?_
    refine sl_nil ?_
    refine sw_false rfl (rfl) ?_
    refine sw_skip ?_
    refine sw_seq ?_
    refine sl_region ?_
    refine sl_mv rfl rfl rfl ?_
    refine sl_as rfl rfl rfl ?_
    refine sl_nil ?_
    refine sw_ret ⟨rfl, _, _, res_one rfl rfl, ?_, by rw [rdOf_bad (by unfold decS bindR; rw [hdec])]; exact ⟨rfl, _, ⟨r, rfl⟩, rfl⟩⟩
    repeat (first | exact Sub.refl _ | exact Sub.none _ | refine Sub.p0 ?_ | refine Sub.p1 ?_ | refine Sub.p2 ?_ | refine Sub.p3 ?_ | refine Sub.p4 ?_ | refine Sub.p5 ?_ | refine Sub.p6 ?_ | refine Sub.drop ?_)
  · rw [rdOf_good hdec] at h2 ⊢
    obtain ⟨rfl, hr⟩ := h2
    refine sl_as rfl rfl rfl ?_
    refine sl_nil ?_
    refine sw_seq ?_
    refine sw_seq ?_
    refine sl_region ?_
    refine sl_mv rfl rfl rfl ?_
    refine sl_bin rfl rfl rfl rfl rfl ?_
    refine sl_mv rfl rfl rfl ?_
    refine sl_case_at 8 rfl (fun ha => ?_) (fun ha => ?_)
    · refine sl_guard_n rfl rfl rfl ha ?_
      refine sl_guard_n rfl rfl rfl ha ?_
      refine sl_pk_t rfl rfl rfl ha rfl ?_
      refine sl_nil ?_
      refine sw_true rfl (rfl) ?_
      have hn : ¬ isI32 n := by intro h; have := of_decide_eq_true ha; have := h.1; omega
      refine sw_seq ?_
      refine sl_region ?_
      refine sl_mv rfl rfl rfl ?_
      refine sl_nc rfl rfl rfl rfl ?_
      first
        | refine sl_fieldAddr_ptr rfl rfl rfl fo_80_1 ?_
        | refine sl_fieldAddr_rp rfl rfl rfl fo_80_1 ?_
        | refine sl_fieldAddr_ref rfl rfl rfl fo_80_1 ?_
      first
        | refine sl_st rfl rfl rfl rfl sz_4 rfl rfl rfl (Nat.le_of_ble_eq_true rfl) ?_
        | (refine sl_f1 ?_; refine sl_st rfl rfl rfl rfl sz_4 rfl rfl rfl (Nat.le_of_ble_eq_true rfl) ?_)
        | (refine sl_f2 ?_; refine sl_st rfl rfl rfl rfl sz_4 rfl rfl rfl (Nat.le_of_ble_eq_true rfl) ?_)
        | (refine sl_f3 ?_; refine sl_st rfl rfl rfl rfl sz_4 rfl rfl rfl (Nat.le_of_ble_eq_true rfl) ?_)
        | (refine sl_f4 ?_; refine sl_st rfl rfl rfl rfl sz_4 rfl rfl rfl (Nat.le_of_ble_eq_true rfl) ?_)
        | (refine sl_f5 ?_; refine sl_st rfl rfl rfl rfl sz_4 rfl rfl rfl (Nat.le_of_ble_eq_true rfl) ?_)
        | (refine sl_f6 ?_; refine sl_st rfl rfl rfl rfl sz_4 rfl rfl rfl (Nat.le_of_ble_eq_true rfl) ?_)
      refine sl_nil ?_
      refine sw_seq ?_
      refine sl_region ?_
      refine sl_as rfl rfl rfl ?_
      refine sl_nil ?_
      refine sw_ret ⟨rfl, _, _, res_one rfl rfl, ?_, by rw [rdOf_bad (by unfold decS bindR; rw [hdec]; exact if_neg hn)]; exact ⟨rfl, _, ⟨r, rfl⟩, rfl⟩⟩
      repeat (first | exact Sub.refl _ | exact Sub.none _ | refine Sub.p0 ?_ | refine Sub.p1 ?_ | refine Sub.p2 ?_ | refine Sub.p3 ?_ | refine Sub.p4 ?_ | refine Sub.p5 ?_ | refine Sub.p6 ?_ | refine Sub.drop ?_)
    · refine sl_guard_y rfl rfl rfl ha ?_
      refine sl_mv rfl rfl rfl ?_
      refine sl_guard_y rfl rfl rfl ha ?_
      refine sl_bin rfl rfl rfl rfl rfl ?_
      refine sl_pk_f rfl rfl rfl ha rfl ?_
      refine sl_nil ?_
      refine sw_cond rfl (fun hb => ?_) (fun hb => ?_)
      · have hn : ¬ isI32 n := by intro h; have := of_decide_eq_true hb; have := h.2; omega
        refine sw_seq ?_
        refine sl_region ?_
        refine sl_mv rfl rfl rfl ?_
        refine sl_nc rfl rfl rfl rfl ?_
        first
          | refine sl_fieldAddr_ptr rfl rfl rfl fo_80_1 ?_
          | refine sl_fieldAddr_rp rfl rfl rfl fo_80_1 ?_
          | refine sl_fieldAddr_ref rfl rfl rfl fo_80_1 ?_
        first
          | refine sl_st rfl rfl rfl rfl sz_4 rfl rfl rfl (Nat.le_of_ble_eq_true rfl) ?_
          | (refine sl_f1 ?_; refine sl_st rfl rfl rfl rfl sz_4 rfl rfl rfl (Nat.le_of_ble_eq_true rfl) ?_)
          | (refine sl_f2 ?_; refine sl_st rfl rfl rfl rfl sz_4 rfl rfl rfl (Nat.le_of_ble_eq_true rfl) ?_)
          | (refine sl_f3 ?_; refine sl_st rfl rfl rfl rfl sz_4 rfl rfl rfl (Nat.le_of_ble_eq_true rfl) ?_)
          | (refine sl_f4 ?_; refine sl_st rfl rfl rfl rfl sz_4 rfl rfl rfl (Nat.le_of_ble_eq_true rfl) ?_)
          | (refine sl_f5 ?_; refine sl_st rfl rfl rfl rfl sz_4 rfl rfl rfl (Nat.le_of_ble_eq_true rfl) ?_)
          | (refine sl_f6 ?_; refine sl_st rfl rfl rfl rfl sz_4 rfl rfl rfl (Nat.le_of_ble_eq_true rfl) ?_)
        refine sl_nil ?_
        refine sw_seq ?_
        refine sl_region ?_
        refine sl_as rfl rfl rfl ?_
        refine sl_nil ?_
        refine sw_ret ⟨rfl, _, _, res_one rfl rfl, ?_, by rw [rdOf_bad (by unfold decS bindR; rw [hdec]; exact if_neg hn)]; exact ⟨rfl, _, ⟨r, rfl⟩, rfl⟩⟩
        repeat (first | exact Sub.refl _ | exact Sub.none _ | refine Sub.p0 ?_ | refine Sub.p1 ?_ | refine Sub.p2 ?_ | refine Sub.p3 ?_ | refine Sub.p4 ?_ | refine Sub.p5 ?_ | refine Sub.p6 ?_ | refine Sub.drop ?_)
      · have hn : isI32 n := ⟨by have := of_decide_eq_false ha; omega, by have := of_decide_eq_false hb; omega⟩
        refine sw_skip ?_
        refine sw_seq ?_
        refine sl_region ?_
        refine sl_mv rfl rfl rfl ?_
        refine sl_as rfl rfl rfl ?_
        refine sl_nil ?_
        refine sw_ret ⟨rfl, _, _, res_one rfl rfl, ?_, by rw [rdOf_good (v := n) (r := r) (by unfold decS bindR; rw [hdec]; exact if_pos hn)]; exact ⟨rfl, _, ⟨rfl, hr⟩, rfl⟩⟩
        repeat (first | exact Sub.refl _ | exact Sub.none _ | refine Sub.p0 ?_ | refine Sub.p1 ?_ | refine Sub.p2 ?_ | refine Sub.p3 ?_ | refine Sub.p4 ?_ | refine Sub.p5 ?_ | refine Sub.p6 ?_ | refine Sub.drop ?_)

theorem ysmall_bad (q : Nat) (l : List UInt8) (σ : List Chunk) : FSpec Try.prog 90 [.ptr q 0] (rd q l true :: σ) (fun d σ' => d = .val (i64V 0) ∧ ∃ r, σ' = rd q r true :: σ) := by
  refine spec_of_sw Try.func90 rfl ?_
  refine sw_seq ?_
  refine sl_region ?_
  refine sl_as rfl rfl rfl ?_
  refine sl_nil ?_
  refine sw_seq ?_
  refine sl_region ?_
  refine sl_mv rfl rfl rfl ?_
  refine sl_callf rfl rfl cal_82 (yint_ok q none (rd q l true) σ ⟨l, rfl⟩) ?_ ?_ ?_ (fun _ _ h => h.elim)
  · repeat (first | exact Weaks.nil | refine Weaks.cons (Weak.junk _) ?_ | refine Weaks.cons (Weak.refl _) ?_ | refine Weaks.cons (Weak.toV rfl) ?_ | refine Weaks.cons (Weak.ref _) ?_ | refine Weaks.cons (Weak.rp_agg _) ?_)
  · repeat (first | exact Sub.refl _ | exact Sub.none _ | refine Sub.p0 ?_ | refine Sub.p1 ?_ | refine Sub.p2 ?_ | refine Sub.p3 ?_ | refine Sub.p4 ?_ | refine Sub.p5 ?_ | refine Sub.p6 ?_ | refine Sub.drop ?_)
  rintro _ _ ⟨rfl, c2, h2, rfl⟩
  obtain ⟨r, rfl⟩ := h2
  refine sl_as rfl rfl rfl ?_
  refine sl_nil ?_
  refine sw_seq ?_
  refine sw_seq ?_
  refine sl_region ?_
  refine sl_mv rfl rfl rfl ?_
  refine sl_bin rfl rfl rfl rfl rfl ?_
  refine sl_mv rfl rfl rfl ?_
  refine sl_guard_y rfl rfl rfl (rfl) ?_
  refine sl_mv rfl rfl rfl ?_
  refine sl_guard_y rfl rfl rfl (rfl) ?_
  refine sl_bin rfl rfl rfl rfl rfl ?_
  refine sl_pk_f rfl rfl rfl (rfl) rfl ?_
  refine sl_nil ?_
  refine sw_false rfl (rfl) ?_
  refine sw_skip ?_
  refine sw_seq ?_
  refine sl_region ?_
  refine sl_mv rfl rfl rfl ?_
  refine sl_as rfl rfl rfl ?_
  refine sl_nil ?_
  refine sw_ret ⟨rfl, _, _, res_one rfl rfl, ?_, ⟨rfl, r, rfl⟩⟩
  repeat (first | exact Sub.refl _ | exact Sub.none _ | refine Sub.p0 ?_ | refine Sub.p1 ?_ | refine Sub.p2 ?_ | refine Sub.p3 ?_ | refine Sub.p4 ?_ | refine Sub.p5 ?_ | refine Sub.p6 ?_ | refine Sub.drop ?_)

theorem ysmall_ok (q : Nat) (st : Option (List UInt8)) (c : Chunk) (σ : List Chunk) (h : Rdr q st c) :
    FSpec Try.prog 90 [.ptr q 0] (c :: σ) (fun d σ' => d = .val (i64V (rdOf decS 0 st).1) ∧ ∃ c', Rdr q (rdOf decS 0 st).2 c' ∧ σ' = c' :: σ) := by
  cases st with
  | some l => obtain ⟨rfl, hl⟩ := h; exact ysmall_good q l σ hl
  | none => obtain ⟨r, rfl⟩ := h; exact (ysmall_bad q r σ).mono fun d σ' h => by obtain ⟨h1, r2, h2⟩ := h; exact ⟨h1, _, ⟨r2, rfl⟩, h2⟩

end Go.Proofs.Ytioechdfghglhaa
