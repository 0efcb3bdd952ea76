/- Walks: printed by a program of this session out of its script CodeP. -/
import Derived.Test.YtioechdfghglhaaSlT
import Derived.Test.YtioechdfghglhaaP9
import Derived.Test.YtioechdfghglhaaCodeD
namespace Go.Proofs.Ytioechdfghglhaa
set_option linter.unusedVariables false
set_option linter.unusedSimpArgs false
set_option maxRecDepth 4000
set_option maxHeartbeats 4000000
open Go Go.RowKit SL


/-- small reads a number of 32 bits. -/
theorem rsmall_ok (q : Nat) (l : List UInt8) (σ : List Chunk) :
    FSpecP Try.prog 101 [.ptr q 0] (rd q l false :: σ) (fun d σ' => ∃ v r, decS l = some (v, r) ∧ d = .val (i64V v) ∧ σ' = rd q r false :: σ)
      (fun ch σ' => decS l = none ∧ ch = stop ∧ ∃ r, σ' = rd q r false :: σ) := by
  refine spec_of_sw Try.func101 rfl ?_
  refine sw_seq ?_
  refine sl_region ?_
  refine sl_as rfl rfl rfl ?_
  refine sl_nil ?_
  refine sw_seq ?_
  refine sl_region ?_
  refine sl_mv rfl rfl rfl ?_
  refine sl_callf rfl rfl cal_62 (rint_ok q l σ) ?_ ?_ ?_ (fun _ _ h => by obtain ⟨h1, rfl, r, rfl⟩ := h; exact ⟨rfl, _, Sub.refl _, by unfold decS bindR; rw [h1], rfl, _, rfl⟩)
  · repeat (first | exact Weaks.nil | refine Weaks.cons (Weak.junk _) ?_ | refine Weaks.cons (Weak.refl _) ?_ | refine Weaks.cons (Weak.toV rfl) ?_ | refine Weaks.cons (Weak.ref _) ?_ | refine Weaks.cons (Weak.rp_agg _) ?_)
  · repeat (first | exact Sub.refl _ | exact Sub.none _ | refine Sub.p0 ?_ | refine Sub.p1 ?_ | refine Sub.p2 ?_ | refine Sub.p3 ?_ | refine Sub.p4 ?_ | refine Sub.p5 ?_ | refine Sub.p6 ?_ | refine Sub.drop ?_)
  rintro _ _ ⟨n, r, hd, rfl, rfl⟩
  refine sl_as rfl rfl rfl ?_
  refine sl_nil ?_
  refine sw_seq ?_
  refine sl_region ?_
  refine sl_mv rfl rfl rfl ?_
  refine sl_bin rfl rfl rfl rfl rfl ?_
  refine sl_mv rfl rfl rfl ?_
  refine sl_case_at 8 rfl (fun ha => ?_) (fun ha => ?_)
  · refine sl_guard_y rfl rfl rfl ha ?_
    refine sl_mv rfl rfl rfl ?_
    refine sl_guard_y rfl rfl rfl ha ?_
    refine sl_bin rfl rfl rfl rfl rfl ?_
    refine sl_pk_t rfl rfl rfl ha rfl ?_
    refine sl_callf rfl rfl cal_98 (must_ok (decide (n ≤ 2147483647)) (rd q r false :: σ)) ?_ ?_ ?_ (fun _ _ h => by obtain ⟨hb, rfl, rfl⟩ := h; exact ⟨rfl, _, Sub.refl _, by unfold decS bindR; rw [hd]; exact if_neg (fun h => by have := of_decide_eq_false hb; have := h.2; omega), rfl, _, rfl⟩)
    · repeat (first | exact Weaks.nil | refine Weaks.cons (Weak.junk _) ?_ | refine Weaks.cons (Weak.refl _) ?_ | refine Weaks.cons (Weak.toV rfl) ?_ | refine Weaks.cons (Weak.ref _) ?_ | refine Weaks.cons (Weak.rp_agg _) ?_)
    · repeat (first | exact Sub.refl _ | exact Sub.none _ | refine Sub.p0 ?_ | refine Sub.p1 ?_ | refine Sub.p2 ?_ | refine Sub.p3 ?_ | refine Sub.p4 ?_ | refine Sub.p5 ?_ | refine Sub.p6 ?_ | refine Sub.drop ?_)
    rintro _ _ ⟨hb, rfl, rfl⟩
    refine sl_nil ?_
    refine sw_seq ?_
    refine sl_region ?_
    refine sl_mv rfl rfl rfl ?_
    refine sl_as rfl rfl rfl ?_
    refine sl_nil ?_
    refine sw_ret ⟨rfl, _, _, res_one rfl rfl, ?_, ⟨n, r, by unfold decS bindR; rw [hd]; exact if_pos ⟨by have := of_decide_eq_true ha; omega, of_decide_eq_true hb⟩, rfl, rfl⟩⟩
    repeat (first | exact Sub.refl _ | exact Sub.none _ | refine Sub.p0 ?_ | refine Sub.p1 ?_ | refine Sub.p2 ?_ | refine Sub.p3 ?_ | refine Sub.p4 ?_ | refine Sub.p5 ?_ | refine Sub.p6 ?_ | refine Sub.drop ?_)
  · refine sl_guard_n rfl rfl rfl ha ?_
    refine sl_guard_n rfl rfl rfl ha ?_
    refine sl_pk_f rfl rfl rfl ha rfl ?_
    refine sl_callf rfl rfl cal_98 (must_ok false (rd q r false :: σ)) ?_ ?_ ?_ (fun _ _ h => by obtain ⟨_, rfl, rfl⟩ := h; exact ⟨rfl, _, Sub.refl _, by unfold decS bindR; rw [hd]; exact if_neg (fun h => by have := of_decide_eq_false ha; have := h.1; omega), rfl, _, rfl⟩)
    · repeat (first | exact Weaks.nil | refine Weaks.cons (Weak.junk _) ?_ | refine Weaks.cons (Weak.refl _) ?_ | refine Weaks.cons (Weak.toV rfl) ?_ | refine Weaks.cons (Weak.ref _) ?_ | refine Weaks.cons (Weak.rp_agg _) ?_)
    · repeat (first | exact Sub.refl _ | exact Sub.none _ | refine Sub.p0 ?_ | refine Sub.p1 ?_ | refine Sub.p2 ?_ | refine Sub.p3 ?_ | refine Sub.p4 ?_ | refine Sub.p5 ?_ | refine Sub.p6 ?_ | refine Sub.drop ?_)
    rintro _ _ ⟨⟨⟩, _, _⟩

/-- count reads how many there are. -/
theorem rcount_ok (q : Nat) (l : List UInt8) (σ : List Chunk) (hl : l.length ≤ 100000000) :
    FSpecP Try.prog 100 [.ptr q 0] (rd q l false :: σ) (fun d σ' => ∃ v r, decC l = some (v, r) ∧ d = .val (.int .i64 (v : Int)) ∧ σ' = rd q r false :: σ)
      (fun ch σ' => decC l = none ∧ ch = stop ∧ ∃ r, σ' = rd q r false :: σ) := by
  refine spec_of_sw Try.func100 rfl ?_
  refine sw_seq ?_
  refine sl_region ?_
  refine sl_as rfl rfl rfl ?_
  refine sl_nil ?_
  refine sw_seq ?_
  refine sl_region ?_
  refine sl_mv rfl rfl rfl ?_
  refine sl_callf rfl rfl cal_73 (rnum_ok q l σ) ?_ ?_ ?_ (fun _ _ h => by obtain ⟨h1, rfl, r, rfl⟩ := h; exact ⟨rfl, _, Sub.refl _, by unfold decC bindR; rw [h1], rfl, _, rfl⟩)
  · repeat (first | exact Weaks.nil | refine Weaks.cons (Weak.junk _) ?_ | refine Weaks.cons (Weak.refl _) ?_ | refine Weaks.cons (Weak.toV rfl) ?_ | refine Weaks.cons (Weak.ref _) ?_ | refine Weaks.cons (Weak.rp_agg _) ?_)
  · repeat (first | exact Sub.refl _ | exact Sub.none _ | refine Sub.p0 ?_ | refine Sub.p1 ?_ | refine Sub.p2 ?_ | refine Sub.p3 ?_ | refine Sub.p4 ?_ | refine Sub.p5 ?_ | refine Sub.p6 ?_ | refine Sub.drop ?_)
  rintro _ _ ⟨n, r, hd, rfl, rfl⟩
  refine sl_as rfl rfl rfl ?_
  refine sl_nil ?_
  refine sw_seq ?_
  refine sl_region ?_
  refine sl_mv rfl rfl rfl ?_
  refine sl_mv rfl rfl rfl ?_
  refine sl_nc rfl rfl rfl rfl ?_
  first
    | refine sl_fieldAddr_ptr rfl rfl rfl fo_113_0 ?_
    | refine sl_fieldAddr_rp rfl rfl rfl fo_113_0 ?_
    | refine sl_fieldAddr_ref rfl rfl rfl fo_113_0 ?_
  first
    | refine sl_load_rp1 rfl rfl rfl ag_26 rfl ?_
    | refine sl_load_blk1 rfl rfl rfl ag_26 (by first | exact List.Mem.head _ | exact List.Mem.tail _ (List.Mem.head _) | exact List.Mem.tail _ (List.Mem.tail _ (List.Mem.head _)) | exact List.Mem.tail _ (List.Mem.tail _ (List.Mem.tail _ (List.Mem.head _))) | exact List.Mem.tail _ (List.Mem.tail _ (List.Mem.tail _ (List.Mem.tail _ (List.Mem.head _)))) | exact List.Mem.tail _ (List.Mem.tail _ (List.Mem.tail _ (List.Mem.tail _ (List.Mem.tail _ (List.Mem.head _)))))) rfl ?_
  first
    | refine sl_len rfl rfl rfl ⟨_, u_26⟩ ?_
    | refine sl_len_sl rfl rfl rfl ⟨_, u_26⟩ ?_
  refine sl_conv_int rfl rfl rfl is_3 u_37 ?_
  have hr := Nat.le_trans (decN_len hd) hl
  refine sl_set 12 (.val (.int .u64 (r.length : Int))) (len_u64 hr) ?_
  refine sl_bin rfl rfl rfl rfl rfl ?_
  refine sl_callf rfl rfl cal_98 (must_ok (decide ((n : Int) ≤ (r.length : Int))) (rd q r false :: σ)) ?_ ?_ ?_ (fun _ _ h => by obtain ⟨hb, rfl, rfl⟩ := h; exact ⟨rfl, _, Sub.refl _, by unfold decC bindR; rw [hd]; exact if_neg (by have := of_decide_eq_false hb; omega), rfl, _, rfl⟩)
  · repeat (first | exact Weaks.nil | refine Weaks.cons (Weak.junk _) ?_ | refine Weaks.cons (Weak.refl _) ?_ | refine Weaks.cons (Weak.toV rfl) ?_ | refine Weaks.cons (Weak.ref _) ?_ | refine Weaks.cons (Weak.rp_agg _) ?_)
  · repeat (first | exact Sub.refl _ | exact Sub.none _ | refine Sub.p0 ?_ | refine Sub.p1 ?_ | refine Sub.p2 ?_ | refine Sub.p3 ?_ | refine Sub.p4 ?_ | refine Sub.p5 ?_ | refine Sub.p6 ?_ | refine Sub.drop ?_)
  rintro _ _ ⟨hb, rfl, rfl⟩
  have hb : n ≤ r.length := by have := of_decide_eq_true hb; omega
  refine sl_nil ?_
  refine sw_seq ?_
  refine sl_region ?_
  refine sl_mv rfl rfl rfl ?_
  refine sl_conv_int rfl rfl rfl is_37 u_3 ?_
  refine sl_set 16 (.val (.int .i64 (n : Int))) (congrArg (fun z => D.val (.int .i64 z)) (wrap_i64 (n := (n : Int)) (by omega) (by omega))) ?_
  refine sl_as rfl rfl rfl ?_
  refine sl_nil ?_
  refine sw_ret ⟨rfl, _, _, res_one rfl rfl, ?_, ⟨n, r, by unfold decC bindR; rw [hd]; exact if_pos hb, rfl, rfl⟩⟩
  repeat (first | exact Sub.refl _ | exact Sub.none _ | refine Sub.p0 ?_ | refine Sub.p1 ?_ | refine Sub.p2 ?_ | refine Sub.p3 ?_ | refine Sub.p4 ?_ | refine Sub.p5 ?_ | refine Sub.p6 ?_ | refine Sub.drop ?_)

/-- ival reads an interval. -/
theorem rival_ok (q : Nat) (l : List UInt8) (σ : List Chunk) :
    FSpecP Try.prog 102 [.ptr q 0] (rd q l false :: σ) (fun d σ' => ∃ v r, decV l = some (v, r) ∧ d = .val (ivlV v) ∧ σ' = rd q r false :: σ)
      (fun ch σ' => decV l = none ∧ ch = stop ∧ ∃ r, σ' = rd q r false :: σ) := by
  refine spec_of_sw Try.func102 rfl ?_
  refine sw_seq ?_
  refine sl_region ?_
  refine sl_alloc rfl rfl zd_69 (fun b2 => ?_)
  refine sl_nil ?_
  refine sw_seq ?_
  refine sw_seq ?_
  refine sl_region ?_
  refine sl_mv rfl rfl rfl ?_
  refine sl_callf rfl rfl cal_75 (rbool_ok q l (.blk b2 [.val (.bool false), .val (.int .i64 0), .val (.int .i64 0)] :: σ)) ?_ ?_ ?_ (fun _ _ h => by obtain ⟨h1, rfl, r, rfl⟩ := h; exact ⟨rfl, _, (by repeat (first | exact Sub.refl _ | exact Sub.none _ | refine Sub.p0 ?_ | refine Sub.p1 ?_ | refine Sub.p2 ?_ | refine Sub.p3 ?_ | refine Sub.p4 ?_ | refine Sub.p5 ?_ | refine Sub.p6 ?_ | refine Sub.drop ?_)), by unfold decV bindR; rw [h1], rfl, _, rfl⟩)
  · repeat (first | exact Weaks.nil | refine Weaks.cons (Weak.junk _) ?_ | refine Weaks.cons (Weak.refl _) ?_ | refine Weaks.cons (Weak.toV rfl) ?_ | refine Weaks.cons (Weak.ref _) ?_ | refine Weaks.cons (Weak.rp_agg _) ?_)
  · repeat (first | exact Sub.refl _ | exact Sub.none _ | refine Sub.p0 ?_ | refine Sub.p1 ?_ | refine Sub.p2 ?_ | refine Sub.p3 ?_ | refine Sub.p4 ?_ | refine Sub.p5 ?_ | refine Sub.p6 ?_ | refine Sub.drop ?_)
  rintro _ _ ⟨b, r1, h1, rfl, rfl⟩
  refine sl_not rfl rfl rfl ?_
  refine sl_nil ?_
  refine sw_cond rfl (fun ht => ?_) (fun ht => ?_)
  · obtain rfl : b = false := by simpa using ht
    refine sw_seq ?_
    refine sl_region ?_
    refine sl_bd rfl rfl .nil bi_69 zd_69 rfl ?_
    first
      | refine sl_st rfl rfl rfl rfl sz_69 rfl rfl rfl (Nat.le_of_ble_eq_true rfl) ?_
      | (refine sl_f1 ?_; refine sl_st rfl rfl rfl rfl sz_69 rfl rfl rfl (Nat.le_of_ble_eq_true rfl) ?_)
      | (refine sl_f2 ?_; refine sl_st rfl rfl rfl rfl sz_69 rfl rfl rfl (Nat.le_of_ble_eq_true rfl) ?_)
      | (refine sl_f3 ?_; refine sl_st rfl rfl rfl rfl sz_69 rfl rfl rfl (Nat.le_of_ble_eq_true rfl) ?_)
      | (refine sl_f4 ?_; refine sl_st rfl rfl rfl rfl sz_69 rfl rfl rfl (Nat.le_of_ble_eq_true rfl) ?_)
      | (refine sl_f5 ?_; refine sl_st rfl rfl rfl rfl sz_69 rfl rfl rfl (Nat.le_of_ble_eq_true rfl) ?_)
      | (refine sl_f6 ?_; refine sl_st rfl rfl rfl rfl sz_69 rfl rfl rfl (Nat.le_of_ble_eq_true rfl) ?_)
    refine sl_nil ?_
    refine sw_ret ⟨rfl, _, _, ResD.weak (res_celln rfl rfl ag_69 sz_69 (by first | exact List.Mem.head _ | exact List.Mem.tail _ (List.Mem.head _) | exact List.Mem.tail _ (List.Mem.tail _ (List.Mem.head _)) | exact List.Mem.tail _ (List.Mem.tail _ (List.Mem.tail _ (List.Mem.head _))) | exact List.Mem.tail _ (List.Mem.tail _ (List.Mem.tail _ (List.Mem.tail _ (List.Mem.head _)))) | exact List.Mem.tail _ (List.Mem.tail _ (List.Mem.tail _ (List.Mem.tail _ (List.Mem.tail _ (List.Mem.head _)))))) (Nat.le_of_ble_eq_true rfl)) ((Weak.toV rfl) ), ?_, ⟨noIval, r1, by unfold decV bindR; rw [h1]; rfl, rfl, rfl⟩⟩
    repeat (first | exact Sub.refl _ | exact Sub.none _ | refine Sub.p0 ?_ | refine Sub.p1 ?_ | refine Sub.p2 ?_ | refine Sub.p3 ?_ | refine Sub.p4 ?_ | refine Sub.p5 ?_ | refine Sub.p6 ?_ | refine Sub.drop ?_)
  · obtain rfl : b = true := by simpa using ht
    refine sw_skip ?_
    refine sw_seq ?_
    refine sl_region ?_
    refine sl_mv rfl rfl rfl ?_
    refine sl_callf rfl rfl cal_62 (rint_ok q r1 (.blk b2 [.val (.bool false), .val (.int .i64 0), .val (.int .i64 0)] :: σ)) ?_ ?_ ?_ (fun _ _ h => by obtain ⟨h2, rfl, r, rfl⟩ := h; exact ⟨rfl, _, (by repeat (first | exact Sub.refl _ | exact Sub.none _ | refine Sub.p0 ?_ | refine Sub.p1 ?_ | refine Sub.p2 ?_ | refine Sub.p3 ?_ | refine Sub.p4 ?_ | refine Sub.p5 ?_ | refine Sub.p6 ?_ | refine Sub.drop ?_)), by unfold decV bindR; rw [h1]; simp only [if_true]; rw [h2], rfl, _, rfl⟩)
    · repeat (first | exact Weaks.nil | refine Weaks.cons (Weak.junk _) ?_ | refine Weaks.cons (Weak.refl _) ?_ | refine Weaks.cons (Weak.toV rfl) ?_ | refine Weaks.cons (Weak.ref _) ?_ | refine Weaks.cons (Weak.rp_agg _) ?_)
    · repeat (first | exact Sub.refl _ | exact Sub.none _ | refine Sub.p0 ?_ | refine Sub.p1 ?_ | refine Sub.p2 ?_ | refine Sub.p3 ?_ | refine Sub.p4 ?_ | refine Sub.p5 ?_ | refine Sub.p6 ?_ | refine Sub.drop ?_)
    rintro _ _ ⟨lo, r2, h2, rfl, rfl⟩
    refine sl_as rfl rfl rfl ?_
    refine sl_nil ?_
    refine sw_seq ?_
    refine sl_region ?_
    refine sl_mv rfl rfl rfl ?_
    refine sl_mv rfl rfl rfl ?_
    refine sl_callf rfl rfl cal_62 (rint_ok q r2 (.blk b2 [.val (.bool false), .val (.int .i64 0), .val (.int .i64 0)] :: σ)) ?_ ?_ ?_ (fun _ _ h => by obtain ⟨h3, rfl, r, rfl⟩ := h; exact ⟨rfl, _, (by repeat (first | exact Sub.refl _ | exact Sub.none _ | refine Sub.p0 ?_ | refine Sub.p1 ?_ | refine Sub.p2 ?_ | refine Sub.p3 ?_ | refine Sub.p4 ?_ | refine Sub.p5 ?_ | refine Sub.p6 ?_ | refine Sub.drop ?_)), by unfold decV bindR; rw [h1]; simp only [if_true]; rw [h2]; simp only; rw [h3], rfl, _, rfl⟩)
    · repeat (first | exact Weaks.nil | refine Weaks.cons (Weak.junk _) ?_ | refine Weaks.cons (Weak.refl _) ?_ | refine Weaks.cons (Weak.toV rfl) ?_ | refine Weaks.cons (Weak.ref _) ?_ | refine Weaks.cons (Weak.rp_agg _) ?_)
    · repeat (first | exact Sub.refl _ | exact Sub.none _ | refine Sub.p0 ?_ | refine Sub.p1 ?_ | refine Sub.p2 ?_ | refine Sub.p3 ?_ | refine Sub.p4 ?_ | refine Sub.p5 ?_ | refine Sub.p6 ?_ | refine Sub.drop ?_)
    rintro _ _ ⟨hi, r3, h3, rfl, rfl⟩
    refine sl_bd rfl rfl (.cons rfl (.cons rfl (.cons rfl .nil))) bi_69 zd_69 rfl ?_
    first
      | refine sl_st rfl rfl rfl rfl sz_69 rfl rfl rfl (Nat.le_of_ble_eq_true rfl) ?_
      | (refine sl_f1 ?_; refine sl_st rfl rfl rfl rfl sz_69 rfl rfl rfl (Nat.le_of_ble_eq_true rfl) ?_)
      | (refine sl_f2 ?_; refine sl_st rfl rfl rfl rfl sz_69 rfl rfl rfl (Nat.le_of_ble_eq_true rfl) ?_)
      | (refine sl_f3 ?_; refine sl_st rfl rfl rfl rfl sz_69 rfl rfl rfl (Nat.le_of_ble_eq_true rfl) ?_)
      | (refine sl_f4 ?_; refine sl_st rfl rfl rfl rfl sz_69 rfl rfl rfl (Nat.le_of_ble_eq_true rfl) ?_)
      | (refine sl_f5 ?_; refine sl_st rfl rfl rfl rfl sz_69 rfl rfl rfl (Nat.le_of_ble_eq_true rfl) ?_)
      | (refine sl_f6 ?_; refine sl_st rfl rfl rfl rfl sz_69 rfl rfl rfl (Nat.le_of_ble_eq_true rfl) ?_)
    refine sl_nil ?_
    refine sw_ret ⟨rfl, _, _, ResD.weak (res_celln rfl rfl ag_69 sz_69 (by first | exact List.Mem.head _ | exact List.Mem.tail _ (List.Mem.head _) | exact List.Mem.tail _ (List.Mem.tail _ (List.Mem.head _)) | exact List.Mem.tail _ (List.Mem.tail _ (List.Mem.tail _ (List.Mem.head _))) | exact List.Mem.tail _ (List.Mem.tail _ (List.Mem.tail _ (List.Mem.tail _ (List.Mem.head _)))) | exact List.Mem.tail _ (List.Mem.tail _ (List.Mem.tail _ (List.Mem.tail _ (List.Mem.tail _ (List.Mem.head _)))))) (Nat.le_of_ble_eq_true rfl)) ((Weak.toV rfl) ), ?_, ⟨⟨true, lo, hi⟩, r3, by unfold decV bindR; rw [h1]; simp only [if_true]; rw [h2]; simp only; rw [h3], rfl, rfl⟩⟩
    repeat (first | exact Sub.refl _ | exact Sub.none _ | refine Sub.p0 ?_ | refine Sub.p1 ?_ | refine Sub.p2 ?_ | refine Sub.p3 ?_ | refine Sub.p4 ?_ | refine Sub.p5 ?_ | refine Sub.p6 ?_ | refine Sub.drop ?_)

end Go.Proofs.Ytioechdfghglhaa
