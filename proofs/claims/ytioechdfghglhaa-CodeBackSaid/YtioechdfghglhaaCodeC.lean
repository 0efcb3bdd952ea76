/- Walks: printed by a program of this session out of its script CodeC. -/
import Derived.Test.YtioechdfghglhaaSlT
import Derived.Test.YtioechdfghglhaaP4
import Derived.Test.YtioechdfghglhaaCodeB
namespace Go.Proofs.Ytioechdfghglhaa
set_option linter.unusedVariables false
set_option linter.unusedSimpArgs false
set_option maxRecDepth 4000
set_option maxHeartbeats 4000000
open Go Go.RowKit SL


/-- num reads a number. -/
theorem rnum_ok (q : Nat) (l : List UInt8) (σ : List Chunk) :
    FSpecP Try.prog 73 [.ptr q 0] (rd q l false :: σ) (fun d σ' => ∃ v r, decN 0 l = some (v, r) ∧ d = .val (u64V v) ∧ σ' = rd q r false :: σ)
      (fun ch σ' => decN 0 l = none ∧ ch = stop ∧ ∃ r, σ' = rd q r false :: σ) := by
  refine spec_of_sw Try.func73 rfl ?_
  refine sw_seq ?_
  refine sl_region ?_
  refine sl_as rfl rfl rfl ?_
  refine sl_nil ?_
  refine sw_seq ?_
  refine sl_region ?_
  refine sl_as rfl rfl rfl ?_
  refine sl_nil ?_
  refine sw_seq ?_
  refine sl_region ?_
  refine sl_as rfl rfl rfl ?_
  refine sl_nil ?_
  refine sw_block ?_
  refine sw_loopw (fun nX sX δX σX => ∃ (i n : Nat) (m : List UInt8), (11 - i) = nX ∧ sX = ⟨60, (.cons 0 (.ptr q 0) (.cons 3 (.val (.int .u64 (n : Int))) (.cons 4 (.val (.int .i64 (i : Int))) .nil)))⟩ ∧ δX = [] ∧ σX = rd q m false :: σ ∧ i ≤ 10 ∧ n < 128 ^ i ∧ decN 0 l = (decN i m).map fun p => (n + 128 ^ i * p.1, p.2)) ?_ ?_
  · refine ⟨_, _, _, ?_, ?_, 0, 0, l, rfl, rfl, rfl, rfl, Nat.zero_le _, by decide, start_dec l⟩
    · refine ⟨rfl, ?_⟩; repeat (first | exact WkL.nil | refine WkL.cons (Weak.refl _) ?_ | refine WkL.cons (Weak.toV rfl) ?_ | refine WkL.cons (Weak.ref _) ?_ | refine WkL.cons (Weak.rp_agg _) ?_)
    · repeat (first | exact Sub.refl _ | exact Sub.none _ | refine Sub.p0 ?_ | refine Sub.p1 ?_ | refine Sub.p2 ?_ | refine Sub.p3 ?_ | refine Sub.p4 ?_ | refine Sub.p5 ?_ | refine Sub.p6 ?_ | refine Sub.drop ?_)
  · rintro nX sX δX σX ⟨i, n, m, rfl, rfl, rfl, rfl, hi, hn, hd⟩
    refine sw_seq ?_
    refine sw_block ?_
    refine sw_seq ?_
    refine sl_region ?_
    refine sl_mv rfl rfl rfl ?_
    refine sl_bin rfl rfl rfl rfl rfl ?_
    refine sl_mv rfl rfl rfl ?_
    refine sl_case_at 10 rfl (fun hc => ?_) (fun hc => ?_)
    · have hc1 : i < 10 := by have := of_decide_eq_true hc; omega
      refine sl_guard_y rfl rfl rfl hc ?_
      refine sl_mv rfl rfl rfl ?_
      refine sl_guard_y rfl rfl rfl hc ?_
      refine sl_nc rfl rfl rfl rfl ?_
      refine sl_guard_y rfl rfl rfl hc ?_
      first
        | refine sl_fieldAddr_ptr rfl rfl rfl fo_113_0 ?_
        | refine sl_fieldAddr_rp rfl rfl rfl fo_113_0 ?_
        | refine sl_fieldAddr_ref rfl rfl rfl fo_113_0 ?_
      refine sl_guard_y rfl rfl rfl hc ?_
      first
        | refine sl_load_rp1 rfl rfl rfl ag_26 rfl ?_
        | refine sl_load_blk1 rfl rfl rfl ag_26 (by first | exact List.Mem.head _ | exact List.Mem.tail _ (List.Mem.head _) | exact List.Mem.tail _ (List.Mem.tail _ (List.Mem.head _)) | exact List.Mem.tail _ (List.Mem.tail _ (List.Mem.tail _ (List.Mem.head _))) | exact List.Mem.tail _ (List.Mem.tail _ (List.Mem.tail _ (List.Mem.tail _ (List.Mem.head _)))) | exact List.Mem.tail _ (List.Mem.tail _ (List.Mem.tail _ (List.Mem.tail _ (List.Mem.tail _ (List.Mem.head _)))))) rfl ?_
      refine sl_guard_y rfl rfl rfl hc ?_
      first
        | refine sl_len rfl rfl rfl ⟨_, u_26⟩ ?_
        | refine sl_len_sl rfl rfl rfl ⟨_, u_26⟩ ?_
      refine sl_guard_y rfl rfl rfl hc ?_
      refine sl_bin rfl rfl rfl rfl rfl ?_
      refine sl_pk_t rfl rfl rfl hc rfl ?_
      refine sl_callf rfl rfl cal_98 (must_ok (decide ((((m.map byteV).length : Nat) : Int) > 0)) (rd q m false :: σ)) ?_ ?_ ?_ (fun _ _ h => by obtain ⟨hb, rfl, rfl⟩ := h; have hm := len_pos_false hb; subst hm; exact ⟨rfl, _, Sub.refl _, by rw [hd]; rfl, rfl, _, rfl⟩)
      · repeat (first | exact Weaks.nil | refine Weaks.cons (Weak.junk _) ?_ | refine Weaks.cons (Weak.refl _) ?_ | refine Weaks.cons (Weak.toV rfl) ?_ | refine Weaks.cons (Weak.ref _) ?_ | refine Weaks.cons (Weak.rp_agg _) ?_)
      · repeat (first | exact Sub.refl _ | exact Sub.none _ | refine Sub.p0 ?_ | refine Sub.p1 ?_ | refine Sub.p2 ?_ | refine Sub.p3 ?_ | refine Sub.p4 ?_ | refine Sub.p5 ?_ | refine Sub.p6 ?_ | refine Sub.drop ?_)
      rintro _ _ ⟨hb, rfl, rfl⟩
      obtain ⟨x, m, rfl⟩ := len_pos_true hb
      refine sl_nil ?_
      refine sw_seq ?_
      refine sl_region ?_
      refine sl_mv rfl rfl rfl ?_
      refine sl_nc rfl rfl rfl rfl ?_
      first
        | refine sl_fieldAddr_ptr rfl rfl rfl fo_113_0 ?_
        | refine sl_fieldAddr_rp rfl rfl rfl fo_113_0 ?_
        | refine sl_fieldAddr_ref rfl rfl rfl fo_113_0 ?_
      first
        | refine sl_load_rp1 rfl rfl rfl ag_26 rfl ?_
        | refine sl_load_blk1 rfl rfl rfl ag_26 (by first | exact List.Mem.head _ | exact List.Mem.tail _ (List.Mem.head _) | exact List.Mem.tail _ (List.Mem.tail _ (List.Mem.head _)) | exact List.Mem.tail _ (List.Mem.tail _ (List.Mem.tail _ (List.Mem.head _))) | exact List.Mem.tail _ (List.Mem.tail _ (List.Mem.tail _ (List.Mem.tail _ (List.Mem.head _)))) | exact List.Mem.tail _ (List.Mem.tail _ (List.Mem.tail _ (List.Mem.tail _ (List.Mem.tail _ (List.Mem.head _)))))) rfl ?_
      refine sl_indexAddr' rfl rfl rfl rfl u_26 sz_5 (by decide) rfl rfl ?_
      first
        | refine sl_load_rp1 rfl rfl rfl ag_5 rfl ?_
        | refine sl_load_blk1 rfl rfl rfl ag_5 (by first | exact List.Mem.head _ | exact List.Mem.tail _ (List.Mem.head _) | exact List.Mem.tail _ (List.Mem.tail _ (List.Mem.head _)) | exact List.Mem.tail _ (List.Mem.tail _ (List.Mem.tail _ (List.Mem.head _))) | exact List.Mem.tail _ (List.Mem.tail _ (List.Mem.tail _ (List.Mem.tail _ (List.Mem.head _)))) | exact List.Mem.tail _ (List.Mem.tail _ (List.Mem.tail _ (List.Mem.tail _ (List.Mem.tail _ (List.Mem.head _)))))) rfl ?_
      refine sl_as rfl rfl rfl ?_
      refine sl_nil ?_
      refine sw_seq ?_
      refine sl_region ?_
      refine sl_mv rfl rfl rfl ?_
      refine sl_mv rfl rfl rfl ?_
      refine sl_nc rfl rfl rfl rfl ?_
      first
        | refine sl_fieldAddr_ptr rfl rfl rfl fo_113_0 ?_
        | refine sl_fieldAddr_rp rfl rfl rfl fo_113_0 ?_
        | refine sl_fieldAddr_ref rfl rfl rfl fo_113_0 ?_
      first
        | refine sl_load_rp1 rfl rfl rfl ag_26 rfl ?_
        | refine sl_load_blk1 rfl rfl rfl ag_26 (by first | exact List.Mem.head _ | exact List.Mem.tail _ (List.Mem.head _) | exact List.Mem.tail _ (List.Mem.tail _ (List.Mem.head _)) | exact List.Mem.tail _ (List.Mem.tail _ (List.Mem.tail _ (List.Mem.head _))) | exact List.Mem.tail _ (List.Mem.tail _ (List.Mem.tail _ (List.Mem.tail _ (List.Mem.head _)))) | exact List.Mem.tail _ (List.Mem.tail _ (List.Mem.tail _ (List.Mem.tail _ (List.Mem.tail _ (List.Mem.head _)))))) rfl ?_
      refine sl_slice_list 1 _ rfl rfl rfl u_26 sz_5 (fun x hx => ((show Sized _ _ by repeat (first | exact sized_nil | exact sized_map (fun _ => ⟨rfl, rfl⟩) | refine sized_cons rfl rfl ?_ | refine sized_append ?_ ?_ | assumption)) x hx).1) ⟨_, rfl⟩ rfl (by simp) (Nat.le_refl _) ?_
      refine sl_set 30 (.val (.list (m.map byteV))) (drop_one x m) ?_
      refine sl_nc rfl rfl rfl rfl ?_
      first
        | refine sl_fieldAddr_ptr rfl rfl rfl fo_113_0 ?_
        | refine sl_fieldAddr_rp rfl rfl rfl fo_113_0 ?_
        | refine sl_fieldAddr_ref rfl rfl rfl fo_113_0 ?_
      first
        | refine sl_st rfl rfl rfl rfl sz_26 rfl rfl rfl (Nat.le_of_ble_eq_true rfl) ?_
        | (refine sl_f1 ?_; refine sl_st rfl rfl rfl rfl sz_26 rfl rfl rfl (Nat.le_of_ble_eq_true rfl) ?_)
        | (refine sl_f2 ?_; refine sl_st rfl rfl rfl rfl sz_26 rfl rfl rfl (Nat.le_of_ble_eq_true rfl) ?_)
        | (refine sl_f3 ?_; refine sl_st rfl rfl rfl rfl sz_26 rfl rfl rfl (Nat.le_of_ble_eq_true rfl) ?_)
        | (refine sl_f4 ?_; refine sl_st rfl rfl rfl rfl sz_26 rfl rfl rfl (Nat.le_of_ble_eq_true rfl) ?_)
        | (refine sl_f5 ?_; refine sl_st rfl rfl rfl rfl sz_26 rfl rfl rfl (Nat.le_of_ble_eq_true rfl) ?_)
        | (refine sl_f6 ?_; refine sl_st rfl rfl rfl rfl sz_26 rfl rfl rfl (Nat.le_of_ble_eq_true rfl) ?_)
      refine sl_nil ?_
      refine sw_seq ?_
      refine sw_cutk ⟨60, (.cons 0 (.ptr q 0) (.cons 3 (.val (.int .u64 (n : Int))) (.cons 4 (.val (.int .i64 (i : Int))) (.cons 5 (.val (.int .u8 (x.toNat : Int))) .nil))))⟩ (rd q m false :: σ) (i < 9 ∨ i = 9 ∧ x.toNat ≤ 1) ?_ ?_
      · refine sl_region ?_
        refine sl_mv rfl rfl rfl ?_
        refine sl_bin rfl rfl rfl rfl rfl ?_
        refine sl_mv rfl rfl rfl ?_
        refine sl_case_at 35 rfl (fun h9 => ?_) (fun h9 => ?_)
        · refine sl_guard_n rfl rfl rfl h9 ?_
          refine sl_guard_n rfl rfl rfl h9 ?_
          refine sl_pk_t rfl rfl rfl h9 rfl ?_
          refine sl_callf rfl rfl cal_98 (must_ok true (rd q m false :: σ)) ?_ ?_ ?_ (fun _ _ h => by cases h.1)
          · repeat (first | exact Weaks.nil | refine Weaks.cons (Weak.junk _) ?_ | refine Weaks.cons (Weak.refl _) ?_ | refine Weaks.cons (Weak.toV rfl) ?_ | refine Weaks.cons (Weak.ref _) ?_ | refine Weaks.cons (Weak.rp_agg _) ?_)
          · repeat (first | exact Sub.refl _ | exact Sub.none _ | refine Sub.p0 ?_ | refine Sub.p1 ?_ | refine Sub.p2 ?_ | refine Sub.p3 ?_ | refine Sub.p4 ?_ | refine Sub.p5 ?_ | refine Sub.p6 ?_ | refine Sub.drop ?_)
          rintro _ _ ⟨hb, rfl, rfl⟩
          refine sl_nil ?_
          refine ⟨?_, ?_, rfl, .inl (by have := of_decide_eq_true h9; omega)⟩
          · refine ⟨rfl, ?_⟩; repeat (first | exact WkL.nil | refine WkL.cons (Weak.refl _) ?_ | refine WkL.cons (Weak.toV rfl) ?_ | refine WkL.cons (Weak.ref _) ?_ | refine WkL.cons (Weak.rp_agg _) ?_)
          · repeat (first | exact Sub.refl _ | exact Sub.none _ | refine Sub.p0 ?_ | refine Sub.p1 ?_ | refine Sub.p2 ?_ | refine Sub.p3 ?_ | refine Sub.p4 ?_ | refine Sub.p5 ?_ | refine Sub.p6 ?_ | refine Sub.drop ?_)
        · have h91 : ¬ i < 9 := by have := of_decide_eq_false h9; omega
          refine sl_guard_y rfl rfl rfl h9 ?_
          refine sl_mv rfl rfl rfl ?_
          refine sl_guard_y rfl rfl rfl h9 ?_
          refine sl_bin rfl rfl rfl rfl rfl ?_
          refine sl_pk_f rfl rfl rfl h9 rfl ?_
          refine sl_callf rfl rfl cal_98 (must_ok (decide ((x.toNat : Int) ≤ 1)) (rd q m false :: σ)) ?_ ?_ ?_ (fun _ _ h => by obtain ⟨hb, rfl, rfl⟩ := h; exact ⟨rfl, _, Sub.refl _, by rw [hd, decN_great h91 (by have := of_decide_eq_false hb; omega)]; rfl, rfl, _, rfl⟩)
          · repeat (first | exact Weaks.nil | refine Weaks.cons (Weak.junk _) ?_ | refine Weaks.cons (Weak.refl _) ?_ | refine Weaks.cons (Weak.toV rfl) ?_ | refine Weaks.cons (Weak.ref _) ?_ | refine Weaks.cons (Weak.rp_agg _) ?_)
          · repeat (first | exact Sub.refl _ | exact Sub.none _ | refine Sub.p0 ?_ | refine Sub.p1 ?_ | refine Sub.p2 ?_ | refine Sub.p3 ?_ | refine Sub.p4 ?_ | refine Sub.p5 ?_ | refine Sub.p6 ?_ | refine Sub.drop ?_)
          rintro _ _ ⟨hb, rfl, rfl⟩
          refine sl_nil ?_
          refine ⟨?_, ?_, rfl, .inr ⟨by omega, by have := of_decide_eq_true hb; omega⟩⟩
          · refine ⟨rfl, ?_⟩; repeat (first | exact WkL.nil | refine WkL.cons (Weak.refl _) ?_ | refine WkL.cons (Weak.toV rfl) ?_ | refine WkL.cons (Weak.ref _) ?_ | refine WkL.cons (Weak.rp_agg _) ?_)
          · repeat (first | exact Sub.refl _ | exact Sub.none _ | refine Sub.p0 ?_ | refine Sub.p1 ?_ | refine Sub.p2 ?_ | refine Sub.p3 ?_ | refine Sub.p4 ?_ | refine Sub.p5 ?_ | refine Sub.p6 ?_ | refine Sub.drop ?_)
      · intro hj
        have hj2 : i < 9 ∧ x.toNat % 128 < 128 ∨ i = 9 ∧ x.toNat % 128 ≤ 1 := by omega
        refine sw_seq ?_
        refine sl_region ?_
        refine sl_mv rfl rfl rfl ?_
        refine sl_mv rfl rfl rfl ?_
        refine sl_bin rfl rfl rfl rfl rfl ?_
        refine sl_set 42 (.val (.int .u8 ((x.toNat % 128 : Nat) : Int))) (mask_byte x) ?_
        refine sl_conv_int rfl rfl rfl is_5 u_37 ?_
        refine sl_set 43 (.val (.int .u64 ((x.toNat % 128 : Nat) : Int))) (congrArg (fun z => D.val (.int .u64 z)) (wrapped_u64 _ (by omega))) ?_
        refine sl_mv rfl rfl rfl ?_
        refine sl_bin rfl rfl rfl rfl rfl ?_
        refine sl_set 45 (.val (.int .i64 ((7 * i : Nat) : Int))) (congrArg (fun z => D.val (.int .i64 z)) (wrap_i64 (n := ((7 * i : Nat) : Int)) (by omega) (by omega))) ?_
        refine sl_conv_int rfl rfl rfl is_3 u_110 ?_
        refine sl_set 46 (.val (.int .u64 ((7 * i : Nat) : Int))) (congrArg (fun z => D.val (.int .u64 z)) (wrapped_u64 _ (by omega))) ?_
        refine sl_shl rfl rfl rfl rfl (by omega) ?_
        refine sl_set 47 (.val (.int .u64 ((128 ^ i * (x.toNat % 128) : Nat) : Int))) (shl_part hj2) ?_
        refine sl_bin rfl rfl rfl rfl rfl ?_
        refine sl_set 48 (.val (.int .u64 ((n + 128 ^ i * (x.toNat % 128) : Nat) : Int))) (or_part hn hj2) ?_
        refine sl_as rfl rfl rfl ?_
        refine sl_nil ?_
        refine sw_seq ?_
        refine sl_region ?_
        refine sl_mv rfl rfl rfl ?_
        refine sl_bin rfl rfl rfl rfl rfl ?_
        refine sl_bin rfl rfl rfl rfl rfl ?_
        refine sl_set 51 (.val (.bool (decide (x.toNat < 128)))) (top_byte x) ?_
        refine sl_nil ?_
        refine sw_cond rfl (fun hx => ?_) (fun hx => ?_)
        · have hx : x.toNat < 128 := of_decide_eq_true hx
          refine sw_seq ?_
          refine sl_region ?_
          refine sl_mv rfl rfl rfl ?_
          refine sl_bin rfl rfl rfl rfl rfl ?_
          refine sl_mv rfl rfl rfl ?_
          refine sl_case_at 54 rfl (fun hz => ?_) (fun hz => ?_)
          · have hz1 : x.toNat ≠ 0 := by intro h; rw [h] at hz; simp at hz
            refine sl_guard_n rfl rfl rfl hz ?_
            refine sl_guard_n rfl rfl rfl hz ?_
            refine sl_pk_t rfl rfl rfl hz rfl ?_
            refine sl_callf rfl rfl cal_98 (must_ok true (rd q m false :: σ)) ?_ ?_ ?_ (fun _ _ h => by cases h.1)
            · repeat (first | exact Weaks.nil | refine Weaks.cons (Weak.junk _) ?_ | refine Weaks.cons (Weak.refl _) ?_ | refine Weaks.cons (Weak.toV rfl) ?_ | refine Weaks.cons (Weak.ref _) ?_ | refine Weaks.cons (Weak.rp_agg _) ?_)
            · repeat (first | exact Sub.refl _ | exact Sub.none _ | refine Sub.p0 ?_ | refine Sub.p1 ?_ | refine Sub.p2 ?_ | refine Sub.p3 ?_ | refine Sub.p4 ?_ | refine Sub.p5 ?_ | refine Sub.p6 ?_ | refine Sub.drop ?_)
            rintro _ _ ⟨hb, rfl, rfl⟩
            refine sl_nil ?_
            refine sw_seq ?_
            refine sl_region ?_
            refine sl_mv rfl rfl rfl ?_
            refine sl_as rfl rfl rfl ?_
            refine sl_nil ?_
            refine sw_ret ⟨rfl, _, _, res_one rfl rfl, ?_, ⟨_, m, fin_dec hd (decN_last hj hx (.inl hz1)) hx, rfl, rfl⟩⟩
            repeat (first | exact Sub.refl _ | exact Sub.none _ | refine Sub.p0 ?_ | refine Sub.p1 ?_ | refine Sub.p2 ?_ | refine Sub.p3 ?_ | refine Sub.p4 ?_ | refine Sub.p5 ?_ | refine Sub.p6 ?_ | refine Sub.drop ?_)
          · have hz1 : x.toNat = 0 := by simpa using hz
            refine sl_guard_y rfl rfl rfl hz ?_
            refine sl_mv rfl rfl rfl ?_
            refine sl_guard_y rfl rfl rfl hz ?_
            refine sl_bin rfl rfl rfl rfl rfl ?_
            refine sl_pk_f rfl rfl rfl hz rfl ?_
            refine sl_callf rfl rfl cal_98 (must_ok ((i : Int) == 0) (rd q m false :: σ)) ?_ ?_ ?_ (fun _ _ h => by obtain ⟨hb, rfl, rfl⟩ := h; exact ⟨rfl, _, Sub.refl _, by rw [hd, decN_nought hz1 (by simpa using hb)]; rfl, rfl, _, rfl⟩)
            · repeat (first | exact Weaks.nil | refine Weaks.cons (Weak.junk _) ?_ | refine Weaks.cons (Weak.refl _) ?_ | refine Weaks.cons (Weak.toV rfl) ?_ | refine Weaks.cons (Weak.ref _) ?_ | refine Weaks.cons (Weak.rp_agg _) ?_)
            · repeat (first | exact Sub.refl _ | exact Sub.none _ | refine Sub.p0 ?_ | refine Sub.p1 ?_ | refine Sub.p2 ?_ | refine Sub.p3 ?_ | refine Sub.p4 ?_ | refine Sub.p5 ?_ | refine Sub.p6 ?_ | refine Sub.drop ?_)
            rintro _ _ ⟨hb, rfl, rfl⟩
            have hb : i = 0 := by simpa using hb
            refine sl_nil ?_
            refine sw_seq ?_
            refine sl_region ?_
            refine sl_mv rfl rfl rfl ?_
            refine sl_as rfl rfl rfl ?_
            refine sl_nil ?_
            refine sw_ret ⟨rfl, _, _, res_one rfl rfl, ?_, ⟨_, m, fin_dec hd (decN_last hj hx (.inr hb)) hx, rfl, rfl⟩⟩
            repeat (first | exact Sub.refl _ | exact Sub.none _ | refine Sub.p0 ?_ | refine Sub.p1 ?_ | refine Sub.p2 ?_ | refine Sub.p3 ?_ | refine Sub.p4 ?_ | refine Sub.p5 ?_ | refine Sub.p6 ?_ | refine Sub.drop ?_)
        · have hx : ¬ x.toNat < 128 := of_decide_eq_false hx
          refine sw_skip ?_
          refine sl_region ?_
          refine sl_mv rfl rfl rfl ?_
          first
            | refine sl_inc rfl rfl rfl rfl (by omega) ?_
            | refine sl_add rfl rfl rfl rfl (by constructor <;> omega) ?_
            | refine sl_bin rfl rfl rfl rfl rfl ?_
          refine sl_as rfl rfl rfl ?_
          refine sl_nil ?_
          refine ⟨_, by omega, _, _, ?_, ?_, i + 1, n + 128 ^ i * (x.toNat % 128), m, rfl, rfl, rfl, rfl, by omega, step_lt hn (by omega), step_dec hd hj hx⟩
          · refine ⟨rfl, ?_⟩; repeat (first | exact WkL.nil | refine WkL.cons (Weak.refl _) ?_ | refine WkL.cons (Weak.toV rfl) ?_ | refine WkL.cons (Weak.ref _) ?_ | refine WkL.cons (Weak.rp_agg _) ?_)
          · repeat (first | exact Sub.refl _ | exact Sub.none _ | refine Sub.p0 ?_ | refine Sub.p1 ?_ | refine Sub.p2 ?_ | refine Sub.p3 ?_ | refine Sub.p4 ?_ | refine Sub.p5 ?_ | refine Sub.p6 ?_ | refine Sub.drop ?_)
    · have hc1 : ¬ i < 10 := by have := of_decide_eq_false hc; omega
      refine sl_guard_n rfl rfl rfl hc ?_
      refine sl_guard_n rfl rfl rfl hc ?_
      refine sl_guard_n rfl rfl rfl hc ?_
      refine sl_guard_n rfl rfl rfl hc ?_
      refine sl_guard_n rfl rfl rfl hc ?_
      refine sl_guard_n rfl rfl rfl hc ?_
      refine sl_pk_f rfl rfl rfl hc rfl ?_
      refine sl_callf rfl rfl cal_98 (must_ok false (rd q m false :: σ)) ?_ ?_ ?_ (fun _ _ h => by obtain ⟨_, rfl, rfl⟩ := h; exact ⟨rfl, _, Sub.refl _, by rw [hd, decN_long hc1]; rfl, rfl, _, rfl⟩)
      · repeat (first | exact Weaks.nil | refine Weaks.cons (Weak.junk _) ?_ | refine Weaks.cons (Weak.refl _) ?_ | refine Weaks.cons (Weak.toV rfl) ?_ | refine Weaks.cons (Weak.ref _) ?_ | refine Weaks.cons (Weak.rp_agg _) ?_)
      · repeat (first | exact Sub.refl _ | exact Sub.none _ | refine Sub.p0 ?_ | refine Sub.p1 ?_ | refine Sub.p2 ?_ | refine Sub.p3 ?_ | refine Sub.p4 ?_ | refine Sub.p5 ?_ | refine Sub.p6 ?_ | refine Sub.drop ?_)
      rintro _ _ ⟨⟨⟩, _, _⟩

/-- int reads a number with a sign. -/
theorem rint_ok (q : Nat) (l : List UInt8) (σ : List Chunk) :
    FSpecP Try.prog 62 [.ptr q 0] (rd q l false :: σ) (fun d σ' => ∃ v r, decI l = some (v, r) ∧ d = .val (i64V v) ∧ σ' = rd q r false :: σ)
      (fun ch σ' => decI l = none ∧ ch = stop ∧ ∃ r, σ' = rd q r false :: σ) := by
  refine spec_of_sw Try.func62 rfl ?_
  refine sw_seq ?_
  refine sl_region ?_
  refine sl_as rfl rfl rfl ?_
  refine sl_nil ?_
  refine sw_seq ?_
  refine sl_region ?_
  refine sl_mv rfl rfl rfl ?_
  refine sl_callf rfl rfl cal_73 (rnum_ok q l σ) ?_ ?_ ?_ (fun _ _ h => by obtain ⟨h1, rfl, r, rfl⟩ := h; exact ⟨rfl, _, Sub.refl _, by unfold decI; rw [h1]; rfl, rfl, _, rfl⟩)
  · repeat (first | exact Weaks.nil | refine Weaks.cons (Weak.junk _) ?_ | refine Weaks.cons (Weak.refl _) ?_ | refine Weaks.cons (Weak.toV rfl) ?_ | refine Weaks.cons (Weak.ref _) ?_ | refine Weaks.cons (Weak.rp_agg _) ?_)
  · repeat (first | exact Sub.refl _ | exact Sub.none _ | refine Sub.p0 ?_ | refine Sub.p1 ?_ | refine Sub.p2 ?_ | refine Sub.p3 ?_ | refine Sub.p4 ?_ | refine Sub.p5 ?_ | refine Sub.p6 ?_ | refine Sub.drop ?_)
  rintro _ _ ⟨n, r, hd, rfl, rfl⟩
  refine sl_as rfl rfl rfl ?_
  refine sl_nil ?_
  refine sw_seq ?_
  refine sl_region ?_
  refine sl_mv rfl rfl rfl ?_
  refine sl_shr rfl rfl rfl rfl (by decide) ?_
  refine sl_conv_int rfl rfl rfl is_37 u_2 ?_
  refine sl_mv rfl rfl rfl ?_
  refine sl_bin rfl rfl rfl rfl rfl ?_
  refine sl_conv_int rfl rfl rfl is_37 u_2 ?_
  refine sl_neg rfl rfl rfl ?_
  refine sl_bin rfl rfl rfl rfl rfl ?_
  refine sl_set 13 (.val (i64V (unzig n))) (unzig_bits (decN_lt64 hd)) ?_
  refine sl_as rfl rfl rfl ?_
  refine sl_nil ?_
  refine sw_ret ⟨rfl, _, _, res_one rfl rfl, ?_, ⟨_, r, by unfold decI; rw [hd]; rfl, rfl, rfl⟩⟩
  repeat (first | exact Sub.refl _ | exact Sub.none _ | refine Sub.p0 ?_ | refine Sub.p1 ?_ | refine Sub.p2 ?_ | refine Sub.p3 ?_ | refine Sub.p4 ?_ | refine Sub.p5 ?_ | refine Sub.p6 ?_ | refine Sub.drop ?_)

end Go.Proofs.Ytioechdfghglhaa
