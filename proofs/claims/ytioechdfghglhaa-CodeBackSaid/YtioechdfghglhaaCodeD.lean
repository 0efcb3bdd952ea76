/- Walks: printed by a program of this session out of its script CodeD. -/
import Derived.Test.YtioechdfghglhaaSlT
import Derived.Test.YtioechdfghglhaaP4
import Derived.Test.YtioechdfghglhaaCodeC
namespace Go.Proofs.Ytioechdfghglhaa
set_option linter.unusedVariables false
set_option linter.unusedSimpArgs false
set_option maxRecDepth 4000
set_option maxHeartbeats 4000000
open Go Go.RowKit SL


/-- text reads a text. -/
theorem rtext_ok (q : Nat) (l : List UInt8) (σ : List Chunk) (hl : l.length ≤ 100000000) :
    FSpecP Try.prog 71 [.ptr q 0] (rd q l false :: σ) (fun d σ' => ∃ v r, decT l = some (v, r) ∧ d = .val (strV v) ∧ σ' = rd q r false :: σ)
      (fun ch σ' => decT l = none ∧ ch = stop ∧ ∃ r, σ' = rd q r false :: σ) := by
  refine spec_of_sw Try.func71 rfl ?_
  refine sw_seq ?_
  refine sl_region ?_
  refine sl_as rfl rfl rfl ?_
  refine sl_nil ?_
  refine sw_seq ?_
  refine sl_region ?_
  refine sl_mv rfl rfl rfl ?_
  refine sl_callf rfl rfl cal_73 (rnum_ok q l σ) ?_ ?_ ?_ (fun _ _ h => by obtain ⟨h1, rfl, r, rfl⟩ := h; exact ⟨rfl, _, Sub.refl _, by unfold decT; rw [h1], rfl, _, rfl⟩)
  · repeat (first | exact Weaks.nil | refine Weaks.cons (Weak.junk _) ?_ | refine Weaks.cons (Weak.refl _) ?_ | refine Weaks.cons (Weak.toV rfl) ?_ | refine Weaks.cons (Weak.ref _) ?_ | refine Weaks.cons (Weak.rp_agg _) ?_)
  · repeat (first | exact Sub.refl _ | exact Sub.none _ | refine Sub.p0 ?_ | refine Sub.p1 ?_ | refine Sub.p2 ?_ | refine Sub.p3 ?_ | refine Sub.p4 ?_ | refine Sub.p5 ?_ | refine Sub.p6 ?_ | refine Sub.drop ?_)
  rintro _ _ ⟨n, r, hd, rfl, rfl⟩
  refine sl_as rfl rfl rfl ?_
  refine sl_nil ?_
  refine sw_seq ?_
  refine sl_region ?_
  refine sl_mv rfl rfl rfl ?_
  refine sl_mv rfl rfl rfl ?_
  refine sl_nc rfl rfl rfl rfl ?_
  first
    | refine sl_fieldAddr_ptr rfl rfl rfl fo_113_0 ?_
    | refine sl_fieldAddr_rp rfl rfl rfl fo_113_0 ?_
    | refine sl_fieldAddr_ref rfl rfl rfl fo_113_0 ?_
  first
    | refine sl_load_rp1 rfl rfl rfl ag_26 rfl ?_
    | refine sl_load_blk1 rfl rfl rfl ag_26 (by first | exact List.Mem.head _ | exact List.Mem.tail _ (List.Mem.head _) | exact List.Mem.tail _ (List.Mem.tail _ (List.Mem.head _)) | exact List.Mem.tail _ (List.Mem.tail _ (List.Mem.tail _ (List.Mem.head _))) | exact List.Mem.tail _ (List.Mem.tail _ (List.Mem.tail _ (List.Mem.tail _ (List.Mem.head _)))) | exact List.Mem.tail _ (List.Mem.tail _ (List.Mem.tail _ (List.Mem.tail _ (List.Mem.tail _ (List.Mem.head _)))))) rfl ?_
  first
    | refine sl_len rfl rfl rfl ⟨_, u_26⟩ ?_
    | refine sl_len_sl rfl rfl rfl ⟨_, u_26⟩ ?_
  refine sl_conv_int rfl rfl rfl is_3 u_37 ?_
  have hr := Nat.le_trans (decN_len hd) hl
  refine sl_set 13 (.val (.int .u64 (r.length : Int))) (len_u64 hr) ?_
  refine sl_bin rfl rfl rfl rfl rfl ?_
  refine sl_callf rfl rfl cal_98 (must_ok (decide ((n : Int) ≤ (r.length : Int))) (rd q r false :: σ)) ?_ ?_ ?_ (fun _ _ h => by obtain ⟨hb, rfl, rfl⟩ := h; exact ⟨rfl, _, Sub.refl _, by unfold decT; rw [hd]; exact if_neg (by have := of_decide_eq_false hb; omega), rfl, _, rfl⟩)
  · repeat (first | exact Weaks.nil | refine Weaks.cons (Weak.junk _) ?_ | refine Weaks.cons (Weak.refl _) ?_ | refine Weaks.cons (Weak.toV rfl) ?_ | refine Weaks.cons (Weak.ref _) ?_ | refine Weaks.cons (Weak.rp_agg _) ?_)
  · repeat (first | exact Sub.refl _ | exact Sub.none _ | refine Sub.p0 ?_ | refine Sub.p1 ?_ | refine Sub.p2 ?_ | refine Sub.p3 ?_ | refine Sub.p4 ?_ | refine Sub.p5 ?_ | refine Sub.p6 ?_ | refine Sub.drop ?_)
  rintro _ _ ⟨hb, rfl, rfl⟩
  have hb : n ≤ r.length := by have := of_decide_eq_true hb; omega
  refine sl_nil ?_
  refine sw_seq ?_
  refine sl_region ?_
  refine sl_mv rfl rfl rfl ?_
  refine sl_nc rfl rfl rfl rfl ?_
  first
    | refine sl_fieldAddr_ptr rfl rfl rfl fo_113_0 ?_
    | refine sl_fieldAddr_rp rfl rfl rfl fo_113_0 ?_
    | refine sl_fieldAddr_ref rfl rfl rfl fo_113_0 ?_
  first
    | refine sl_load_rp1 rfl rfl rfl ag_26 rfl ?_
    | refine sl_load_blk1 rfl rfl rfl ag_26 (by first | exact List.Mem.head _ | exact List.Mem.tail _ (List.Mem.head _) | exact List.Mem.tail _ (List.Mem.tail _ (List.Mem.head _)) | exact List.Mem.tail _ (List.Mem.tail _ (List.Mem.tail _ (List.Mem.head _))) | exact List.Mem.tail _ (List.Mem.tail _ (List.Mem.tail _ (List.Mem.tail _ (List.Mem.head _)))) | exact List.Mem.tail _ (List.Mem.tail _ (List.Mem.tail _ (List.Mem.tail _ (List.Mem.tail _ (List.Mem.head _)))))) rfl ?_
  refine sl_mv rfl rfl rfl ?_
  refine sl_slice_list 0 n rfl rfl rfl u_26 sz_5 (fun x hx => ((show Sized _ _ by repeat (first | exact sized_nil | exact sized_map (fun _ => ⟨rfl, rfl⟩) | refine sized_cons rfl rfl ?_ | refine sized_append ?_ ?_ | assumption)) x hx).1) rfl ⟨_, rfl⟩ (Nat.zero_le _) (by simp; omega) ?_
  refine sl_set 21 (.val (.list ((r.take n).map byteV))) (take_bytes r n) ?_
  refine sl_bytes_str rfl rfl rfl u_26 u_5 u_9 ?_
  refine sl_as rfl rfl rfl ?_
  refine sl_nil ?_
  refine sw_seq ?_
  refine sl_region ?_
  refine sl_mv rfl rfl rfl ?_
  refine sl_mv rfl rfl rfl ?_
  refine sl_nc rfl rfl rfl rfl ?_
  first
    | refine sl_fieldAddr_ptr rfl rfl rfl fo_113_0 ?_
    | refine sl_fieldAddr_rp rfl rfl rfl fo_113_0 ?_
    | refine sl_fieldAddr_ref rfl rfl rfl fo_113_0 ?_
  first
    | refine sl_load_rp1 rfl rfl rfl ag_26 rfl ?_
    | refine sl_load_blk1 rfl rfl rfl ag_26 (by first | exact List.Mem.head _ | exact List.Mem.tail _ (List.Mem.head _) | exact List.Mem.tail _ (List.Mem.tail _ (List.Mem.head _)) | exact List.Mem.tail _ (List.Mem.tail _ (List.Mem.tail _ (List.Mem.head _))) | exact List.Mem.tail _ (List.Mem.tail _ (List.Mem.tail _ (List.Mem.tail _ (List.Mem.head _)))) | exact List.Mem.tail _ (List.Mem.tail _ (List.Mem.tail _ (List.Mem.tail _ (List.Mem.tail _ (List.Mem.head _)))))) rfl ?_
  refine sl_mv rfl rfl rfl ?_
  refine sl_slice_list n _ rfl rfl rfl u_26 sz_5 (fun x hx => ((show Sized _ _ by repeat (first | exact sized_nil | exact sized_map (fun _ => ⟨rfl, rfl⟩) | refine sized_cons rfl rfl ?_ | refine sized_append ?_ ?_ | assumption)) x hx).1) ⟨_, rfl⟩ rfl (by simp; omega) (Nat.le_refl _) ?_
  refine sl_set 29 (.val (.list ((r.drop n).map byteV))) (drop_bytes r n) ?_
  refine sl_nc rfl rfl rfl rfl ?_
  first
    | refine sl_fieldAddr_ptr rfl rfl rfl fo_113_0 ?_
    | refine sl_fieldAddr_rp rfl rfl rfl fo_113_0 ?_
    | refine sl_fieldAddr_ref rfl rfl rfl fo_113_0 ?_
  first
    | refine sl_st rfl rfl rfl rfl sz_26 rfl rfl rfl (Nat.le_of_ble_eq_true rfl) ?_
    | (refine sl_f1 ?_; refine sl_st rfl rfl rfl rfl sz_26 rfl rfl rfl (Nat.le_of_ble_eq_true rfl) ?_)
    | (refine sl_f2 ?_; refine sl_st rfl rfl rfl rfl sz_26 rfl rfl rfl (Nat.le_of_ble_eq_true rfl) ?_)
    | (refine sl_f3 ?_; refine sl_st rfl rfl rfl rfl sz_26 rfl rfl rfl (Nat.le_of_ble_eq_true rfl) ?_)
    | (refine sl_f4 ?_; refine sl_st rfl rfl rfl rfl sz_26 rfl rfl rfl (Nat.le_of_ble_eq_true rfl) ?_)
    | (refine sl_f5 ?_; refine sl_st rfl rfl rfl rfl sz_26 rfl rfl rfl (Nat.le_of_ble_eq_true rfl) ?_)
    | (refine sl_f6 ?_; refine sl_st rfl rfl rfl rfl sz_26 rfl rfl rfl (Nat.le_of_ble_eq_true rfl) ?_)
  refine sl_nil ?_
  refine sw_seq ?_
  refine sl_region ?_
  refine sl_mv rfl rfl rfl ?_
  refine sl_as rfl rfl rfl ?_
  refine sl_nil ?_
  refine sw_ret ⟨rfl, _, _, res_one rfl rfl, ?_, ⟨_, _, by unfold decT; rw [hd]; exact if_pos hb, rfl, rfl⟩⟩
  repeat (first | exact Sub.refl _ | exact Sub.none _ | refine Sub.p0 ?_ | refine Sub.p1 ?_ | refine Sub.p2 ?_ | refine Sub.p3 ?_ | refine Sub.p4 ?_ | refine Sub.p5 ?_ | refine Sub.p6 ?_ | refine Sub.drop ?_)

/-- bool reads a truth. -/
theorem rbool_ok (q : Nat) (l : List UInt8) (σ : List Chunk) :
    FSpecP Try.prog 75 [.ptr q 0] (rd q l false :: σ) (fun d σ' => ∃ v r, decB l = some (v, r) ∧ d = .val (boolV v) ∧ σ' = rd q r false :: σ)
      (fun ch σ' => decB l = none ∧ ch = stop ∧ ∃ r, σ' = rd q r false :: σ) := by
  refine spec_of_sw Try.func75 rfl ?_
  refine sw_seq ?_
  refine sl_region ?_
  refine sl_as rfl rfl rfl ?_
  refine sl_nil ?_
  refine sw_seq ?_
  refine sl_region ?_
  refine sl_mv rfl rfl rfl ?_
  refine sl_nc rfl rfl rfl rfl ?_
  first
    | refine sl_fieldAddr_ptr rfl rfl rfl fo_113_0 ?_
    | refine sl_fieldAddr_rp rfl rfl rfl fo_113_0 ?_
    | refine sl_fieldAddr_ref rfl rfl rfl fo_113_0 ?_
  first
    | refine sl_load_rp1 rfl rfl rfl ag_26 rfl ?_
    | refine sl_load_blk1 rfl rfl rfl ag_26 (by first | exact List.Mem.head _ | exact List.Mem.tail _ (List.Mem.head _) | exact List.Mem.tail _ (List.Mem.tail _ (List.Mem.head _)) | exact List.Mem.tail _ (List.Mem.tail _ (List.Mem.tail _ (List.Mem.head _))) | exact List.Mem.tail _ (List.Mem.tail _ (List.Mem.tail _ (List.Mem.tail _ (List.Mem.head _)))) | exact List.Mem.tail _ (List.Mem.tail _ (List.Mem.tail _ (List.Mem.tail _ (List.Mem.tail _ (List.Mem.head _)))))) rfl ?_
  first
    | refine sl_len rfl rfl rfl ⟨_, u_26⟩ ?_
    | refine sl_len_sl rfl rfl rfl ⟨_, u_26⟩ ?_
  refine sl_bin rfl rfl rfl rfl rfl ?_
  refine sl_mv rfl rfl rfl ?_
  refine sl_case_at 10 rfl (fun hc => ?_) (fun hc => ?_)
  · obtain ⟨x, m, rfl⟩ := len_pos_true hc
    refine sl_guard_y rfl rfl rfl hc ?_
    refine sl_mv rfl rfl rfl ?_
    refine sl_guard_y rfl rfl rfl hc ?_
    refine sl_nc rfl rfl rfl rfl ?_
    refine sl_guard_y rfl rfl rfl hc ?_
    first
      | refine sl_fieldAddr_ptr rfl rfl rfl fo_113_0 ?_
      | refine sl_fieldAddr_rp rfl rfl rfl fo_113_0 ?_
      | refine sl_fieldAddr_ref rfl rfl rfl fo_113_0 ?_
    refine sl_guard_y rfl rfl rfl hc ?_
    first
      | refine sl_load_rp1 rfl rfl rfl ag_26 rfl ?_
      | refine sl_load_blk1 rfl rfl rfl ag_26 (by first | exact List.Mem.head _ | exact List.Mem.tail _ (List.Mem.head _) | exact List.Mem.tail _ (List.Mem.tail _ (List.Mem.head _)) | exact List.Mem.tail _ (List.Mem.tail _ (List.Mem.tail _ (List.Mem.head _))) | exact List.Mem.tail _ (List.Mem.tail _ (List.Mem.tail _ (List.Mem.tail _ (List.Mem.head _)))) | exact List.Mem.tail _ (List.Mem.tail _ (List.Mem.tail _ (List.Mem.tail _ (List.Mem.tail _ (List.Mem.head _)))))) rfl ?_
    refine sl_guard_y rfl rfl rfl hc ?_
    refine sl_indexAddr' rfl rfl rfl rfl u_26 sz_5 (by decide) rfl rfl ?_
    refine sl_guard_y rfl rfl rfl hc ?_
    first
      | refine sl_load_rp1 rfl rfl rfl ag_5 rfl ?_
      | refine sl_load_blk1 rfl rfl rfl ag_5 (by first | exact List.Mem.head _ | exact List.Mem.tail _ (List.Mem.head _) | exact List.Mem.tail _ (List.Mem.tail _ (List.Mem.head _)) | exact List.Mem.tail _ (List.Mem.tail _ (List.Mem.tail _ (List.Mem.head _))) | exact List.Mem.tail _ (List.Mem.tail _ (List.Mem.tail _ (List.Mem.tail _ (List.Mem.head _)))) | exact List.Mem.tail _ (List.Mem.tail _ (List.Mem.tail _ (List.Mem.tail _ (List.Mem.tail _ (List.Mem.head _)))))) rfl ?_
    refine sl_guard_y rfl rfl rfl hc ?_
    refine sl_bin rfl rfl rfl rfl rfl ?_
    refine sl_pk_t rfl rfl rfl hc rfl ?_
    refine sl_callf rfl rfl cal_98 (must_ok (decide ((x.toNat : Int) ≤ 1)) (rd q (x :: m) false :: σ)) ?_ ?_ ?_ (fun _ _ h => by obtain ⟨hb, rfl, rfl⟩ := h; exact ⟨rfl, _, Sub.refl _, if_neg (by have := of_decide_eq_false hb; omega), rfl, _, rfl⟩)
    · repeat (first | exact Weaks.nil | refine Weaks.cons (Weak.junk _) ?_ | refine Weaks.cons (Weak.refl _) ?_ | refine Weaks.cons (Weak.toV rfl) ?_ | refine Weaks.cons (Weak.ref _) ?_ | refine Weaks.cons (Weak.rp_agg _) ?_)
    · repeat (first | exact Sub.refl _ | exact Sub.none _ | refine Sub.p0 ?_ | refine Sub.p1 ?_ | refine Sub.p2 ?_ | refine Sub.p3 ?_ | refine Sub.p4 ?_ | refine Sub.p5 ?_ | refine Sub.p6 ?_ | refine Sub.drop ?_)
    rintro _ _ ⟨hb, rfl, rfl⟩
    have hb : x.toNat ≤ 1 := by have := of_decide_eq_true hb; omega
    refine sl_nil ?_
    refine sw_seq ?_
    refine sl_region ?_
    refine sl_mv rfl rfl rfl ?_
    refine sl_nc rfl rfl rfl rfl ?_
    first
      | refine sl_fieldAddr_ptr rfl rfl rfl fo_113_0 ?_
      | refine sl_fieldAddr_rp rfl rfl rfl fo_113_0 ?_
      | refine sl_fieldAddr_ref rfl rfl rfl fo_113_0 ?_
    first
      | refine sl_load_rp1 rfl rfl rfl ag_26 rfl ?_
      | refine sl_load_blk1 rfl rfl rfl ag_26 (by first | exact List.Mem.head _ | exact List.Mem.tail _ (List.Mem.head _) | exact List.Mem.tail _ (List.Mem.tail _ (List.Mem.head _)) | exact List.Mem.tail _ (List.Mem.tail _ (List.Mem.tail _ (List.Mem.head _))) | exact List.Mem.tail _ (List.Mem.tail _ (List.Mem.tail _ (List.Mem.tail _ (List.Mem.head _)))) | exact List.Mem.tail _ (List.Mem.tail _ (List.Mem.tail _ (List.Mem.tail _ (List.Mem.tail _ (List.Mem.head _)))))) rfl ?_
    refine sl_indexAddr' rfl rfl rfl rfl u_26 sz_5 (by decide) rfl rfl ?_
    first
      | refine sl_load_rp1 rfl rfl rfl ag_5 rfl ?_
      | refine sl_load_blk1 rfl rfl rfl ag_5 (by first | exact List.Mem.head _ | exact List.Mem.tail _ (List.Mem.head _) | exact List.Mem.tail _ (List.Mem.tail _ (List.Mem.head _)) | exact List.Mem.tail _ (List.Mem.tail _ (List.Mem.tail _ (List.Mem.head _))) | exact List.Mem.tail _ (List.Mem.tail _ (List.Mem.tail _ (List.Mem.tail _ (List.Mem.head _)))) | exact List.Mem.tail _ (List.Mem.tail _ (List.Mem.tail _ (List.Mem.tail _ (List.Mem.tail _ (List.Mem.head _)))))) rfl ?_
    refine sl_bin rfl rfl rfl rfl rfl ?_
    refine sl_set 26 (.val (boolV (x.toNat == 1))) (is_one x) ?_
    refine sl_as rfl rfl rfl ?_
    refine sl_nil ?_
    refine sw_seq ?_
    refine sl_region ?_
    refine sl_mv rfl rfl rfl ?_
    refine sl_mv rfl rfl rfl ?_
    refine sl_nc rfl rfl rfl rfl ?_
    first
      | refine sl_fieldAddr_ptr rfl rfl rfl fo_113_0 ?_
      | refine sl_fieldAddr_rp rfl rfl rfl fo_113_0 ?_
      | refine sl_fieldAddr_ref rfl rfl rfl fo_113_0 ?_
    first
      | refine sl_load_rp1 rfl rfl rfl ag_26 rfl ?_
      | refine sl_load_blk1 rfl rfl rfl ag_26 (by first | exact List.Mem.head _ | exact List.Mem.tail _ (List.Mem.head _) | exact List.Mem.tail _ (List.Mem.tail _ (List.Mem.head _)) | exact List.Mem.tail _ (List.Mem.tail _ (List.Mem.tail _ (List.Mem.head _))) | exact List.Mem.tail _ (List.Mem.tail _ (List.Mem.tail _ (List.Mem.tail _ (List.Mem.head _)))) | exact List.Mem.tail _ (List.Mem.tail _ (List.Mem.tail _ (List.Mem.tail _ (List.Mem.tail _ (List.Mem.head _)))))) rfl ?_
    refine sl_slice_list 1 _ rfl rfl rfl u_26 sz_5 (fun x hx => ((show Sized _ _ by repeat (first | exact sized_nil | exact sized_map (fun _ => ⟨rfl, rfl⟩) | refine sized_cons rfl rfl ?_ | refine sized_append ?_ ?_ | assumption)) x hx).1) ⟨_, rfl⟩ rfl (by simp) (Nat.le_refl _) ?_
    refine sl_set 32 (.val (.list (m.map byteV))) (drop_one x m) ?_
    refine sl_nc rfl rfl rfl rfl ?_
    first
      | refine sl_fieldAddr_ptr rfl rfl rfl fo_113_0 ?_
      | refine sl_fieldAddr_rp rfl rfl rfl fo_113_0 ?_
      | refine sl_fieldAddr_ref rfl rfl rfl fo_113_0 ?_
    first
      | refine sl_st rfl rfl rfl rfl sz_26 rfl rfl rfl (Nat.le_of_ble_eq_true rfl) ?_
      | (refine sl_f1 ?_; refine sl_st rfl rfl rfl rfl sz_26 rfl rfl rfl (Nat.le_of_ble_eq_true rfl) ?_)
      | (refine sl_f2 ?_; refine sl_st rfl rfl rfl rfl sz_26 rfl rfl rfl (Nat.le_of_ble_eq_true rfl) ?_)
      | (refine sl_f3 ?_; refine sl_st rfl rfl rfl rfl sz_26 rfl rfl rfl (Nat.le_of_ble_eq_true rfl) ?_)
      | (refine sl_f4 ?_; refine sl_st rfl rfl rfl rfl sz_26 rfl rfl rfl (Nat.le_of_ble_eq_true rfl) ?_)
      | (refine sl_f5 ?_; refine sl_st rfl rfl rfl rfl sz_26 rfl rfl rfl (Nat.le_of_ble_eq_true rfl) ?_)
      | (refine sl_f6 ?_; refine sl_st rfl rfl rfl rfl sz_26 rfl rfl rfl (Nat.le_of_ble_eq_true rfl) ?_)
    refine sl_nil ?_
    refine sw_seq ?_
    refine sl_region ?_
    refine sl_mv rfl rfl rfl ?_
    refine sl_as rfl rfl rfl ?_
    refine sl_nil ?_
    refine sw_ret ⟨rfl, _, _, res_one rfl rfl, ?_, ⟨_, m, if_pos hb, rfl, rfl⟩⟩
    repeat (first | exact Sub.refl _ | exact Sub.none _ | refine Sub.p0 ?_ | refine Sub.p1 ?_ | refine Sub.p2 ?_ | refine Sub.p3 ?_ | refine Sub.p4 ?_ | refine Sub.p5 ?_ | refine Sub.p6 ?_ | refine Sub.drop ?_)
  · have hl := len_pos_false hc
    subst hl
    refine sl_guard_n rfl rfl rfl hc ?_
    refine sl_guard_n rfl rfl rfl hc ?_
    refine sl_guard_n rfl rfl rfl hc ?_
    refine sl_guard_n rfl rfl rfl hc ?_
    refine sl_guard_n rfl rfl rfl hc ?_
    refine sl_guard_n rfl rfl rfl hc ?_
    refine sl_guard_n rfl rfl rfl hc ?_
    refine sl_pk_f rfl rfl rfl hc rfl ?_
    refine sl_callf rfl rfl cal_98 (must_ok false (rd q [] false :: σ)) ?_ ?_ ?_ (fun _ _ h => by obtain ⟨_, rfl, rfl⟩ := h; exact ⟨rfl, _, Sub.refl _, rfl, rfl, _, rfl⟩)
    · repeat (first | exact Weaks.nil | refine Weaks.cons (Weak.junk _) ?_ | refine Weaks.cons (Weak.refl _) ?_ | refine Weaks.cons (Weak.toV rfl) ?_ | refine Weaks.cons (Weak.ref _) ?_ | refine Weaks.cons (Weak.rp_agg _) ?_)
    · repeat (first | exact Sub.refl _ | exact Sub.none _ | refine Sub.p0 ?_ | refine Sub.p1 ?_ | refine Sub.p2 ?_ | refine Sub.p3 ?_ | refine Sub.p4 ?_ | refine Sub.p5 ?_ | refine Sub.p6 ?_ | refine Sub.drop ?_)
    rintro _ _ ⟨⟨⟩, _, _⟩

/-- What try defers: nothing was raised. -/
theorem dtry_none (q b2 b4 : Nat) (x y : D) (σ : List Chunk) :
    DSpec Try.prog 92 [.ptr b2 0, .ptr b4 0] (.blk b2 [.ptr q 0] :: .blk b4 [y] :: .blk q [x, .val (.bool false)] :: σ) none
      (fun σ' => σ' = .blk b2 [.ptr q 0] :: .blk b4 [y] :: .blk q [x, .val (.bool false)] :: σ) := by
  refine dspec_recover (x := none) Try.func92 rfl rfl rfl rfl rfl (.val .nilIface) (fun C => .val _ _ .nilIface) rfl ?_
  refine sw_seq ?_
  refine sl_region ?_
  refine sl_mv rfl rfl rfl ?_
  refine sl_ne_if rfl rfl rfl ii_20 ?_
  refine sl_nil ?_
  refine sw_false rfl (rfl) ?_
  refine sw_skip ?_
  refine ⟨rfl, _, _, res_none rfl, ?_, rfl⟩
  repeat (first | exact Sub.refl _ | exact Sub.none _ | refine Sub.p0 ?_ | refine Sub.p1 ?_ | refine Sub.p2 ?_ | refine Sub.p3 ?_ | refine Sub.p4 ?_ | refine Sub.p5 ?_ | refine Sub.p6 ?_ | refine Sub.drop ?_)

/-- What try defers: it was stopped. -/
theorem dtry_some (q b2 b4 : Nat) (x y : D) (σ : List Chunk) :
    DSpec Try.prog 92 [.ptr b2 0, .ptr b4 0] (.blk b2 [.ptr q 0] :: .blk b4 [y] :: .blk q [x, .val (.bool false)] :: σ) (some (.iface 138 (.agg #[])))
      (fun σ' => σ' = .blk b2 [.ptr q 0] :: .blk b4 [.val (.bool false)] :: .blk q [x, .val (.bool true)] :: σ) := by
  refine dspec_recover (x := some (.iface 138 (.agg #[]))) Try.func92 rfl rfl rfl rfl rfl (.iface 138 (.agg [])) (fun C => .iface _ _ _ (.agg _ _ rfl (fun k hk => absurd hk (by simp)))) rfl ?_
  refine sw_seq ?_
  refine sl_region ?_
  refine sl_mv rfl rfl rfl ?_
  refine sl_ne_if rfl rfl rfl ii_20 ?_
  refine sl_nil ?_
  refine sw_true rfl (rfl) ?_
  refine sw_seq ?_
  refine sw_seq ?_
  refine sl_region ?_
  refine sl_mv rfl rfl rfl ?_
  refine sl_ta rfl rfl rfl ni_138 ?_
  refine sl_mv rfl rfl rfl ?_
  refine sl_extract rfl rfl rfl rfl ?_
  refine sl_extract rfl rfl rfl rfl ?_
  refine sl_alloc rfl rfl zd_138 (fun b3 => ?_)
  first
    | refine sl_st rfl rfl rfl rfl sz_138 rfl rfl rfl (Nat.le_of_ble_eq_true rfl) ?_
    | (refine sl_f1 ?_; refine sl_st rfl rfl rfl rfl sz_138 rfl rfl rfl (Nat.le_of_ble_eq_true rfl) ?_)
    | (refine sl_f2 ?_; refine sl_st rfl rfl rfl rfl sz_138 rfl rfl rfl (Nat.le_of_ble_eq_true rfl) ?_)
    | (refine sl_f3 ?_; refine sl_st rfl rfl rfl rfl sz_138 rfl rfl rfl (Nat.le_of_ble_eq_true rfl) ?_)
    | (refine sl_f4 ?_; refine sl_st rfl rfl rfl rfl sz_138 rfl rfl rfl (Nat.le_of_ble_eq_true rfl) ?_)
    | (refine sl_f5 ?_; refine sl_st rfl rfl rfl rfl sz_138 rfl rfl rfl (Nat.le_of_ble_eq_true rfl) ?_)
    | (refine sl_f6 ?_; refine sl_st rfl rfl rfl rfl sz_138 rfl rfl rfl (Nat.le_of_ble_eq_true rfl) ?_)
  refine sl_as rfl rfl rfl ?_
  refine sl_nil ?_
  refine sw_seq ?_
  refine sl_region ?_
  refine sl_mv rfl rfl rfl ?_
  refine sl_not rfl rfl rfl ?_
  refine sl_nil ?_
  refine sw_false rfl (rfl) ?_
  refine sw_skip ?_
  refine sl_region ?_
  first
    | refine sl_load_rp1 rfl rfl rfl ag_31 rfl ?_
    | refine sl_load_blk1 rfl rfl rfl ag_31 (by first | exact List.Mem.head _ | exact List.Mem.tail _ (List.Mem.head _) | exact List.Mem.tail _ (List.Mem.tail _ (List.Mem.head _)) | exact List.Mem.tail _ (List.Mem.tail _ (List.Mem.tail _ (List.Mem.head _))) | exact List.Mem.tail _ (List.Mem.tail _ (List.Mem.tail _ (List.Mem.tail _ (List.Mem.head _)))) | exact List.Mem.tail _ (List.Mem.tail _ (List.Mem.tail _ (List.Mem.tail _ (List.Mem.tail _ (List.Mem.head _)))))) rfl ?_
  refine sl_nc rfl rfl rfl rfl ?_
  first
    | refine sl_fieldAddr_ptr rfl rfl rfl fo_113_1 ?_
    | refine sl_fieldAddr_rp rfl rfl rfl fo_113_1 ?_
    | refine sl_fieldAddr_ref rfl rfl rfl fo_113_1 ?_
  first
    | refine sl_st rfl rfl rfl rfl sz_4 rfl rfl rfl (Nat.le_of_ble_eq_true rfl) ?_
    | (refine sl_f1 ?_; refine sl_st rfl rfl rfl rfl sz_4 rfl rfl rfl (Nat.le_of_ble_eq_true rfl) ?_)
    | (refine sl_f2 ?_; refine sl_st rfl rfl rfl rfl sz_4 rfl rfl rfl (Nat.le_of_ble_eq_true rfl) ?_)
    | (refine sl_f3 ?_; refine sl_st rfl rfl rfl rfl sz_4 rfl rfl rfl (Nat.le_of_ble_eq_true rfl) ?_)
    | (refine sl_f4 ?_; refine sl_st rfl rfl rfl rfl sz_4 rfl rfl rfl (Nat.le_of_ble_eq_true rfl) ?_)
    | (refine sl_f5 ?_; refine sl_st rfl rfl rfl rfl sz_4 rfl rfl rfl (Nat.le_of_ble_eq_true rfl) ?_)
    | (refine sl_f6 ?_; refine sl_st rfl rfl rfl rfl sz_4 rfl rfl rfl (Nat.le_of_ble_eq_true rfl) ?_)
  first
    | refine sl_st rfl rfl rfl rfl sz_4 rfl rfl rfl (Nat.le_of_ble_eq_true rfl) ?_
    | (refine sl_f1 ?_; refine sl_st rfl rfl rfl rfl sz_4 rfl rfl rfl (Nat.le_of_ble_eq_true rfl) ?_)
    | (refine sl_f2 ?_; refine sl_st rfl rfl rfl rfl sz_4 rfl rfl rfl (Nat.le_of_ble_eq_true rfl) ?_)
    | (refine sl_f3 ?_; refine sl_st rfl rfl rfl rfl sz_4 rfl rfl rfl (Nat.le_of_ble_eq_true rfl) ?_)
    | (refine sl_f4 ?_; refine sl_st rfl rfl rfl rfl sz_4 rfl rfl rfl (Nat.le_of_ble_eq_true rfl) ?_)
    | (refine sl_f5 ?_; refine sl_st rfl rfl rfl rfl sz_4 rfl rfl rfl (Nat.le_of_ble_eq_true rfl) ?_)
    | (refine sl_f6 ?_; refine sl_st rfl rfl rfl rfl sz_4 rfl rfl rfl (Nat.le_of_ble_eq_true rfl) ?_)
  refine sl_nil ?_
  refine ⟨rfl, _, _, res_none rfl, ?_, rfl⟩
  repeat (first | exact Sub.refl _ | exact Sub.none _ | refine Sub.p0 ?_ | refine Sub.p1 ?_ | refine Sub.p2 ?_ | refine Sub.p3 ?_ | refine Sub.p4 ?_ | refine Sub.p5 ?_ | refine Sub.p6 ?_ | refine Sub.drop ?_)

/-- try, of a reader that has failed. -/
theorem try_bad (fd : D) (q : Nat) (x : D) (σ : List Chunk) :
    FSpec Try.prog 60 [.ptr q 0, fd] (.blk q [x, .val (.bool true)] :: σ) (fun d σ' => d = .val (.bool false) ∧ σ' = .blk q [x, .val (.bool true)] :: σ) := by
  refine spec_of_defer Try.func60 rfl ?_
  refine sw_seq ?_
  refine sl_region ?_
  refine sl_bx rfl rfl rfl rfl (fun b2 => ?_)
  refine sl_alloc rfl rfl zd_4 (fun b4 => ?_)
  refine sl_nil ?_
  refine sw_seq ?_
  refine sw_seq ?_
  refine sl_region ?_
  first
    | refine sl_load_rp1 rfl rfl rfl ag_31 rfl ?_
    | refine sl_load_blk1 rfl rfl rfl ag_31 (by first | exact List.Mem.head _ | exact List.Mem.tail _ (List.Mem.head _) | exact List.Mem.tail _ (List.Mem.tail _ (List.Mem.head _)) | exact List.Mem.tail _ (List.Mem.tail _ (List.Mem.tail _ (List.Mem.head _))) | exact List.Mem.tail _ (List.Mem.tail _ (List.Mem.tail _ (List.Mem.tail _ (List.Mem.head _)))) | exact List.Mem.tail _ (List.Mem.tail _ (List.Mem.tail _ (List.Mem.tail _ (List.Mem.tail _ (List.Mem.head _)))))) rfl ?_
  refine sl_nc rfl rfl rfl rfl ?_
  first
    | refine sl_fieldAddr_ptr rfl rfl rfl fo_113_1 ?_
    | refine sl_fieldAddr_rp rfl rfl rfl fo_113_1 ?_
    | refine sl_fieldAddr_ref rfl rfl rfl fo_113_1 ?_
  first
    | refine sl_load_rp1 rfl rfl rfl ag_4 rfl ?_
    | refine sl_load_blk1 rfl rfl rfl ag_4 (by first | exact List.Mem.head _ | exact List.Mem.tail _ (List.Mem.head _) | exact List.Mem.tail _ (List.Mem.tail _ (List.Mem.head _)) | exact List.Mem.tail _ (List.Mem.tail _ (List.Mem.tail _ (List.Mem.head _))) | exact List.Mem.tail _ (List.Mem.tail _ (List.Mem.tail _ (List.Mem.tail _ (List.Mem.head _)))) | exact List.Mem.tail _ (List.Mem.tail _ (List.Mem.tail _ (List.Mem.tail _ (List.Mem.tail _ (List.Mem.head _)))))) rfl ?_
  refine sl_nil ?_
  refine sw_true rfl (rfl) ?_
  refine sw_seq ?_
  refine sl_region ?_
  first
    | refine sl_st rfl rfl rfl rfl sz_4 rfl rfl rfl (Nat.le_of_ble_eq_true rfl) ?_
    | (refine sl_f1 ?_; refine sl_st rfl rfl rfl rfl sz_4 rfl rfl rfl (Nat.le_of_ble_eq_true rfl) ?_)
    | (refine sl_f2 ?_; refine sl_st rfl rfl rfl rfl sz_4 rfl rfl rfl (Nat.le_of_ble_eq_true rfl) ?_)
    | (refine sl_f3 ?_; refine sl_st rfl rfl rfl rfl sz_4 rfl rfl rfl (Nat.le_of_ble_eq_true rfl) ?_)
    | (refine sl_f4 ?_; refine sl_st rfl rfl rfl rfl sz_4 rfl rfl rfl (Nat.le_of_ble_eq_true rfl) ?_)
    | (refine sl_f5 ?_; refine sl_st rfl rfl rfl rfl sz_4 rfl rfl rfl (Nat.le_of_ble_eq_true rfl) ?_)
    | (refine sl_f6 ?_; refine sl_st rfl rfl rfl rfl sz_4 rfl rfl rfl (Nat.le_of_ble_eq_true rfl) ?_)
  refine sl_nil ?_
  refine sw_ret ⟨rfl, _, _, res_cell rfl rfl ag_4 (by first | exact List.Mem.head _ | exact List.Mem.tail _ (List.Mem.head _) | exact List.Mem.tail _ (List.Mem.tail _ (List.Mem.head _)) | exact List.Mem.tail _ (List.Mem.tail _ (List.Mem.tail _ (List.Mem.head _))) | exact List.Mem.tail _ (List.Mem.tail _ (List.Mem.tail _ (List.Mem.tail _ (List.Mem.head _)))) | exact List.Mem.tail _ (List.Mem.tail _ (List.Mem.tail _ (List.Mem.tail _ (List.Mem.tail _ (List.Mem.head _)))))) rfl, ?_, ⟨rfl, rfl⟩⟩
  repeat (first | exact Sub.refl _ | exact Sub.none _ | refine Sub.p0 ?_ | refine Sub.p1 ?_ | refine Sub.p2 ?_ | refine Sub.p3 ?_ | refine Sub.p4 ?_ | refine Sub.p5 ?_ | refine Sub.p6 ?_ | refine Sub.drop ?_)

/-- try, of a reader that hasn't. -/
theorem try_ok (g : FuncId) (hg : callable Try.prog g = true) (q b1 b3 : Nat) (x : D) (xs : List D) (Good : D → List D → Prop) (Bad : D → Prop) (σ : List Chunk)
    (hs : ∀ τ, FSpecP Try.prog g [.ptr b1 0, .ptr b3 0] (.blk q [x, .val (.bool false)] :: .blk b1 [.ptr q 0] :: .blk b3 xs :: τ)
      (fun d σ' => ∃ x' xs', Good x' xs' ∧ σ' = .blk q [x', .val (.bool false)] :: .blk b1 [.ptr q 0] :: .blk b3 xs' :: τ)
      (fun ch σ' => ch = stop ∧ ∃ x' xs', Bad x' ∧ σ' = .blk q [x', .val (.bool false)] :: .blk b1 [.ptr q 0] :: .blk b3 xs' :: τ)) :
    FSpec Try.prog 60 [.ptr q 0, .func g [.ptr b1 0, .ptr b3 0]] (.blk q [x, .val (.bool false)] :: .blk b1 [.ptr q 0] :: .blk b3 xs :: σ)
      (fun d σ' => ∃ x' xs' ok, d = .val (.bool ok) ∧ (ok = true → Good x' xs') ∧ (ok = false → Bad x') ∧ σ' = .blk q [x', .val (.bool (!ok))] :: .blk b1 [.ptr q 0] :: .blk b3 xs' :: σ) := by
  refine spec_of_defer Try.func60 rfl ?_
  refine sw_seq ?_
  refine sl_region ?_
  refine sl_bx rfl rfl rfl rfl (fun b2 => ?_)
  refine sl_alloc rfl rfl zd_4 (fun b4 => ?_)
  refine sl_nil ?_
  refine sw_seq ?_
  refine sw_seq ?_
  refine sl_region ?_
  first
    | refine sl_load_rp1 rfl rfl rfl ag_31 rfl ?_
    | refine sl_load_blk1 rfl rfl rfl ag_31 (by first | exact List.Mem.head _ | exact List.Mem.tail _ (List.Mem.head _) | exact List.Mem.tail _ (List.Mem.tail _ (List.Mem.head _)) | exact List.Mem.tail _ (List.Mem.tail _ (List.Mem.tail _ (List.Mem.head _))) | exact List.Mem.tail _ (List.Mem.tail _ (List.Mem.tail _ (List.Mem.tail _ (List.Mem.head _)))) | exact List.Mem.tail _ (List.Mem.tail _ (List.Mem.tail _ (List.Mem.tail _ (List.Mem.tail _ (List.Mem.head _)))))) rfl ?_
  refine sl_nc rfl rfl rfl rfl ?_
  first
    | refine sl_fieldAddr_ptr rfl rfl rfl fo_113_1 ?_
    | refine sl_fieldAddr_rp rfl rfl rfl fo_113_1 ?_
    | refine sl_fieldAddr_ref rfl rfl rfl fo_113_1 ?_
  first
    | refine sl_load_rp1 rfl rfl rfl ag_4 rfl ?_
    | refine sl_load_blk1 rfl rfl rfl ag_4 (by first | exact List.Mem.head _ | exact List.Mem.tail _ (List.Mem.head _) | exact List.Mem.tail _ (List.Mem.tail _ (List.Mem.head _)) | exact List.Mem.tail _ (List.Mem.tail _ (List.Mem.tail _ (List.Mem.head _))) | exact List.Mem.tail _ (List.Mem.tail _ (List.Mem.tail _ (List.Mem.tail _ (List.Mem.head _)))) | exact List.Mem.tail _ (List.Mem.tail _ (List.Mem.tail _ (List.Mem.tail _ (List.Mem.tail _ (List.Mem.head _)))))) rfl ?_
  refine sl_nil ?_
  refine sw_false rfl (rfl) ?_
  refine sw_skip ?_
  refine sw_seq ?_
  refine sl_region ?_
  refine sl_mf rfl rfl (.cons rfl (.cons rfl .nil)) ?_
  refine sl_defer rfl rfl rfl rfl ?_
  refine sl_nil ?_
  refine sw_seq ?_
  refine sl_region ?_
  refine sl_mv rfl rfl rfl ?_
  refine sl_callv rfl rfl rfl hg (hs (.blk b2 [.ptr q 0] :: .blk b4 [.val (.bool false)] :: σ)) ?_ ?_ ?_ (fun _ _ h => by obtain ⟨rfl, x', xs', hbad, rfl⟩ := h; exact ⟨_, rfl, cal_92, DSpec.use (dtry_some q b2 b4 x' (.val (.bool false)) (.blk b1 [.ptr q 0] :: .blk b3 xs' :: σ)) (by repeat (first | exact Sub.refl _ | exact Sub.none _ | refine Sub.p0 ?_ | refine Sub.p1 ?_ | refine Sub.p2 ?_ | refine Sub.p3 ?_ | refine Sub.p4 ?_ | refine Sub.p5 ?_ | refine Sub.p6 ?_ | refine Sub.drop ?_)) (fun σ'' h => by subst h; exact ⟨_, _, res_cell rfl rfl ag_4 (by first | exact List.Mem.head _ | exact List.Mem.tail _ (List.Mem.head _) | exact List.Mem.tail _ (List.Mem.tail _ (List.Mem.head _)) | exact List.Mem.tail _ (List.Mem.tail _ (List.Mem.tail _ (List.Mem.head _))) | exact List.Mem.tail _ (List.Mem.tail _ (List.Mem.tail _ (List.Mem.tail _ (List.Mem.head _)))) | exact List.Mem.tail _ (List.Mem.tail _ (List.Mem.tail _ (List.Mem.tail _ (List.Mem.tail _ (List.Mem.head _)))))) rfl, (by repeat (first | exact Sub.refl _ | exact Sub.none _ | refine Sub.p0 ?_ | refine Sub.p1 ?_ | refine Sub.p2 ?_ | refine Sub.p3 ?_ | refine Sub.p4 ?_ | refine Sub.p5 ?_ | refine Sub.p6 ?_ | refine Sub.drop ?_)), x', xs', false, rfl, fun h => absurd h (by decide), fun _ => hbad, rfl⟩)⟩)
  · repeat (first | exact Weaks.nil | refine Weaks.cons (Weak.junk _) ?_ | refine Weaks.cons (Weak.refl _) ?_ | refine Weaks.cons (Weak.toV rfl) ?_ | refine Weaks.cons (Weak.ref _) ?_ | refine Weaks.cons (Weak.rp_agg _) ?_)
  · repeat (first | exact Sub.refl _ | exact Sub.none _ | refine Sub.p0 ?_ | refine Sub.p1 ?_ | refine Sub.p2 ?_ | refine Sub.p3 ?_ | refine Sub.p4 ?_ | refine Sub.p5 ?_ | refine Sub.p6 ?_ | refine Sub.drop ?_)
  rintro _ _ ⟨x', xs', hgood, rfl⟩
  refine sl_nil ?_
  refine sw_seq ?_
  refine sl_region ?_
  first
    | refine sl_st rfl rfl rfl rfl sz_4 rfl rfl rfl (Nat.le_of_ble_eq_true rfl) ?_
    | (refine sl_f1 ?_; refine sl_st rfl rfl rfl rfl sz_4 rfl rfl rfl (Nat.le_of_ble_eq_true rfl) ?_)
    | (refine sl_f2 ?_; refine sl_st rfl rfl rfl rfl sz_4 rfl rfl rfl (Nat.le_of_ble_eq_true rfl) ?_)
    | (refine sl_f3 ?_; refine sl_st rfl rfl rfl rfl sz_4 rfl rfl rfl (Nat.le_of_ble_eq_true rfl) ?_)
    | (refine sl_f4 ?_; refine sl_st rfl rfl rfl rfl sz_4 rfl rfl rfl (Nat.le_of_ble_eq_true rfl) ?_)
    | (refine sl_f5 ?_; refine sl_st rfl rfl rfl rfl sz_4 rfl rfl rfl (Nat.le_of_ble_eq_true rfl) ?_)
    | (refine sl_f6 ?_; refine sl_st rfl rfl rfl rfl sz_4 rfl rfl rfl (Nat.le_of_ble_eq_true rfl) ?_)
  refine sl_nil ?_
  refine sw_ret ⟨cal_92, DSpec.use (dtry_none q b2 b4 x' (.val (.bool true)) (.blk b1 [.ptr q 0] :: .blk b3 xs' :: σ)) (by repeat (first | exact Sub.refl _ | exact Sub.none _ | refine Sub.p0 ?_ | refine Sub.p1 ?_ | refine Sub.p2 ?_ | refine Sub.p3 ?_ | refine Sub.p4 ?_ | refine Sub.p5 ?_ | refine Sub.p6 ?_ | refine Sub.drop ?_)) (fun σ'' h => by subst h; exact ⟨_, _, res_cell rfl rfl ag_4 (by first | exact List.Mem.head _ | exact List.Mem.tail _ (List.Mem.head _) | exact List.Mem.tail _ (List.Mem.tail _ (List.Mem.head _)) | exact List.Mem.tail _ (List.Mem.tail _ (List.Mem.tail _ (List.Mem.head _))) | exact List.Mem.tail _ (List.Mem.tail _ (List.Mem.tail _ (List.Mem.tail _ (List.Mem.head _)))) | exact List.Mem.tail _ (List.Mem.tail _ (List.Mem.tail _ (List.Mem.tail _ (List.Mem.tail _ (List.Mem.head _)))))) rfl, (by repeat (first | exact Sub.refl _ | exact Sub.none _ | refine Sub.p0 ?_ | refine Sub.p1 ?_ | refine Sub.p2 ?_ | refine Sub.p3 ?_ | refine Sub.p4 ?_ | refine Sub.p5 ?_ | refine Sub.p6 ?_ | refine Sub.drop ?_)), x', xs', true, rfl, fun _ => hgood, fun h => absurd h (by decide), rfl⟩)⟩

theorem cInt_ok (q b1 b3 : Nat) (y : D) (l : List UInt8) (σ : List Chunk) :
    FSpecP Try.prog 61 [.ptr b1 0, .ptr b3 0] (rd q l false :: .blk b1 [.ptr q 0] :: .blk b3 [y] :: σ)
      (fun d σ' => ∃ x' xs', GoodR (decI l) i64V x' xs' ∧ σ' = .blk q [x', .val (.bool false)] :: .blk b1 [.ptr q 0] :: .blk b3 xs' :: σ)
      (fun ch σ' => ch = stop ∧ ∃ x' xs', BadR (decI l) x' ∧ σ' = .blk q [x', .val (.bool false)] :: .blk b1 [.ptr q 0] :: .blk b3 xs' :: σ) := by
  refine spec_of_sw Try.func61 rfl ?_
  refine sl_region ?_
  first
    | refine sl_load_rp1 rfl rfl rfl ag_31 rfl ?_
    | refine sl_load_blk1 rfl rfl rfl ag_31 (by first | exact List.Mem.head _ | exact List.Mem.tail _ (List.Mem.head _) | exact List.Mem.tail _ (List.Mem.tail _ (List.Mem.head _)) | exact List.Mem.tail _ (List.Mem.tail _ (List.Mem.tail _ (List.Mem.head _))) | exact List.Mem.tail _ (List.Mem.tail _ (List.Mem.tail _ (List.Mem.tail _ (List.Mem.head _)))) | exact List.Mem.tail _ (List.Mem.tail _ (List.Mem.tail _ (List.Mem.tail _ (List.Mem.tail _ (List.Mem.head _)))))) rfl ?_
  refine sl_callf rfl rfl cal_62 (rint_ok q l (.blk b1 [.ptr q 0] :: .blk b3 [y] :: σ)) ?_ ?_ ?_ (fun _ _ h => by obtain ⟨h1, rfl, r, rfl⟩ := h; exact ⟨rfl, _, Sub.refl _, rfl, _, _, ⟨h1, _, rfl⟩, rfl⟩)
  · repeat (first | exact Weaks.nil | refine Weaks.cons (Weak.junk _) ?_ | refine Weaks.cons (Weak.refl _) ?_ | refine Weaks.cons (Weak.toV rfl) ?_ | refine Weaks.cons (Weak.ref _) ?_ | refine Weaks.cons (Weak.rp_agg _) ?_)
  · repeat (first | exact Sub.refl _ | exact Sub.none _ | refine Sub.p0 ?_ | refine Sub.p1 ?_ | refine Sub.p2 ?_ | refine Sub.p3 ?_ | refine Sub.p4 ?_ | refine Sub.p5 ?_ | refine Sub.p6 ?_ | refine Sub.drop ?_)
  rintro _ _ ⟨n, r, hd, rfl, rfl⟩
  first
    | refine sl_st rfl rfl rfl rfl sz_2 rfl rfl rfl (Nat.le_of_ble_eq_true rfl) ?_
    | (refine sl_f1 ?_; refine sl_st rfl rfl rfl rfl sz_2 rfl rfl rfl (Nat.le_of_ble_eq_true rfl) ?_)
    | (refine sl_f2 ?_; refine sl_st rfl rfl rfl rfl sz_2 rfl rfl rfl (Nat.le_of_ble_eq_true rfl) ?_)
    | (refine sl_f3 ?_; refine sl_st rfl rfl rfl rfl sz_2 rfl rfl rfl (Nat.le_of_ble_eq_true rfl) ?_)
    | (refine sl_f4 ?_; refine sl_st rfl rfl rfl rfl sz_2 rfl rfl rfl (Nat.le_of_ble_eq_true rfl) ?_)
    | (refine sl_f5 ?_; refine sl_st rfl rfl rfl rfl sz_2 rfl rfl rfl (Nat.le_of_ble_eq_true rfl) ?_)
    | (refine sl_f6 ?_; refine sl_st rfl rfl rfl rfl sz_2 rfl rfl rfl (Nat.le_of_ble_eq_true rfl) ?_)
  refine sl_nil ?_
  refine ⟨rfl, _, _, res_none rfl, ?_, ⟨_, _, ⟨_, _, hd, rfl, rfl⟩, rfl⟩⟩
  repeat (first | exact Sub.refl _ | exact Sub.none _ | refine Sub.p0 ?_ | refine Sub.p1 ?_ | refine Sub.p2 ?_ | refine Sub.p3 ?_ | refine Sub.p4 ?_ | refine Sub.p5 ?_ | refine Sub.p6 ?_ | refine Sub.drop ?_)

/-- Int, of a reader. -/
theorem pInt_good (q : Nat) (l : List UInt8) (σ : List Chunk) (hl : l.length ≤ 100000000) :
    FSpec Try.prog 20 [.ptr q 0] (rd q l false :: σ) (fun d σ' => d = .val (i64V (rdOf (decI) (0 : Int) (some l)).1) ∧ ∃ c', Rdr q (rdOf (decI) (0 : Int) (some l)).2 c' ∧ σ' = c' :: σ) := by
  refine spec_of_sw Try.func20 rfl ?_
  refine sw_seq ?_
  refine sl_region ?_
  refine sl_bx rfl rfl rfl rfl (fun b1 => ?_)
  refine sl_as rfl rfl rfl ?_
  refine sl_nil ?_
  refine sw_seq ?_
  refine sl_region ?_
  refine sl_alloc rfl rfl zd_2 (fun b3 => ?_)
  refine sl_nil ?_
  refine sw_seq ?_
  refine sw_seq ?_
  refine sl_region ?_
  first
    | refine sl_load_rp1 rfl rfl rfl ag_31 rfl ?_
    | refine sl_load_blk1 rfl rfl rfl ag_31 (by first | exact List.Mem.head _ | exact List.Mem.tail _ (List.Mem.head _) | exact List.Mem.tail _ (List.Mem.tail _ (List.Mem.head _)) | exact List.Mem.tail _ (List.Mem.tail _ (List.Mem.tail _ (List.Mem.head _))) | exact List.Mem.tail _ (List.Mem.tail _ (List.Mem.tail _ (List.Mem.tail _ (List.Mem.head _)))) | exact List.Mem.tail _ (List.Mem.tail _ (List.Mem.tail _ (List.Mem.tail _ (List.Mem.tail _ (List.Mem.head _)))))) rfl ?_
  refine sl_mf rfl rfl (.cons rfl (.cons rfl .nil)) ?_
  refine sl_callf rfl rfl cal_60 (try_ok 61 cal_61 q b1 b3 (.val (.list (l.map byteV))) [.val (i64V (0 : Int))] (GoodR (decI l) i64V) (BadR (decI l)) σ (fun τ => cInt_ok q b1 b3 _ l τ)) ?_ ?_ ?_ (fun _ _ h => h.elim)
  · repeat (first | exact Weaks.nil | refine Weaks.cons (Weak.junk _) ?_ | refine Weaks.cons (Weak.refl _) ?_ | refine Weaks.cons (Weak.toV rfl) ?_ | refine Weaks.cons (Weak.ref _) ?_ | refine Weaks.cons (Weak.rp_agg _) ?_)
  · repeat (first | exact Sub.refl _ | exact Sub.none _ | refine Sub.p0 ?_ | refine Sub.p1 ?_ | refine Sub.p2 ?_ | refine Sub.p3 ?_ | refine Sub.p4 ?_ | refine Sub.p5 ?_ | refine Sub.p6 ?_ | refine Sub.drop ?_)
  rintro _ _ ⟨x', xs', ok, rfl, hgood, hbad, rfl⟩
  refine sl_nil ?_
  refine sw_cond rfl (fun hok => ?_) (fun hok => ?_)
  · obtain rfl : ok = true := hok
    obtain ⟨v, r, hd, rfl, rfl⟩ := hgood rfl
    refine sl_region ?_
    first
      | refine sl_load_rp1 rfl rfl rfl ag_2 rfl ?_
      | refine sl_load_blk1 rfl rfl rfl ag_2 (by first | exact List.Mem.head _ | exact List.Mem.tail _ (List.Mem.head _) | exact List.Mem.tail _ (List.Mem.tail _ (List.Mem.head _)) | exact List.Mem.tail _ (List.Mem.tail _ (List.Mem.tail _ (List.Mem.head _))) | exact List.Mem.tail _ (List.Mem.tail _ (List.Mem.tail _ (List.Mem.tail _ (List.Mem.head _)))) | exact List.Mem.tail _ (List.Mem.tail _ (List.Mem.tail _ (List.Mem.tail _ (List.Mem.tail _ (List.Mem.head _)))))) rfl ?_
    refine sl_as rfl rfl rfl ?_
    refine sl_nil ?_
    refine sw_seq ?_
    refine sl_region ?_
    refine sl_mv rfl rfl rfl ?_
    refine sl_as rfl rfl rfl ?_
    refine sl_nil ?_
    refine sw_ret ⟨rfl, _, _, res_one rfl rfl, ?_, by rw [rdOf_good hd]; exact ⟨rfl, _, ⟨rfl, Nat.le_trans (decI_len hd) hl⟩, rfl⟩⟩
    repeat (first | exact Sub.refl _ | exact Sub.none _ | refine Sub.p0 ?_ | refine Sub.p1 ?_ | refine Sub.p2 ?_ | refine Sub.p3 ?_ | refine Sub.p4 ?_ | refine Sub.p5 ?_ | refine Sub.p6 ?_ | refine Sub.drop ?_)
  · obtain rfl : ok = false := hok
    obtain ⟨hd, r, rfl⟩ := hbad rfl
    refine sw_skip ?_
    refine sw_seq ?_
    refine sl_region ?_
    refine sl_mv rfl rfl rfl ?_
    refine sl_as rfl rfl rfl ?_
    refine sl_nil ?_
    refine sw_ret ⟨rfl, _, _, res_one rfl rfl, ?_, by rw [rdOf_bad hd]; exact ⟨rfl, _, ⟨r, rfl⟩, rfl⟩⟩
    repeat (first | exact Sub.refl _ | exact Sub.none _ | refine Sub.p0 ?_ | refine Sub.p1 ?_ | refine Sub.p2 ?_ | refine Sub.p3 ?_ | refine Sub.p4 ?_ | refine Sub.p5 ?_ | refine Sub.p6 ?_ | refine Sub.drop ?_)

theorem pInt_bad (q : Nat) (l : List UInt8) (σ : List Chunk) :
    FSpec Try.prog 20 [.ptr q 0] (rd q l true :: σ) (fun d σ' => d = .val (i64V (0 : Int)) ∧ σ' = rd q l true :: σ) := by
  refine spec_of_sw Try.func20 rfl ?_
  refine sw_seq ?_
  refine sl_region ?_
  refine sl_bx rfl rfl rfl rfl (fun b1 => ?_)
  refine sl_as rfl rfl rfl ?_
  refine sl_nil ?_
  refine sw_seq ?_
  refine sl_region ?_
  refine sl_alloc rfl rfl zd_2 (fun b3 => ?_)
  refine sl_nil ?_
  refine sw_seq ?_
  refine sw_seq ?_
  refine sl_region ?_
  first
    | refine sl_load_rp1 rfl rfl rfl ag_31 rfl ?_
    | refine sl_load_blk1 rfl rfl rfl ag_31 (by first | exact List.Mem.head _ | exact List.Mem.tail _ (List.Mem.head _) | exact List.Mem.tail _ (List.Mem.tail _ (List.Mem.head _)) | exact List.Mem.tail _ (List.Mem.tail _ (List.Mem.tail _ (List.Mem.head _))) | exact List.Mem.tail _ (List.Mem.tail _ (List.Mem.tail _ (List.Mem.tail _ (List.Mem.head _)))) | exact List.Mem.tail _ (List.Mem.tail _ (List.Mem.tail _ (List.Mem.tail _ (List.Mem.tail _ (List.Mem.head _)))))) rfl ?_
  refine sl_mf rfl rfl (.cons rfl (.cons rfl .nil)) ?_
  refine sl_callf rfl rfl cal_60 (try_bad (.func 61 [.ptr b1 0, .ptr b3 0]) q (.val (.list (l.map byteV))) (.blk b1 [.ptr q 0] :: .blk b3 [.val (i64V (0 : Int))] :: σ)) ?_ ?_ ?_ (fun _ _ h => h.elim)
  · repeat (first | exact Weaks.nil | refine Weaks.cons (Weak.junk _) ?_ | refine Weaks.cons (Weak.refl _) ?_ | refine Weaks.cons (Weak.toV rfl) ?_ | refine Weaks.cons (Weak.ref _) ?_ | refine Weaks.cons (Weak.rp_agg _) ?_)
  · repeat (first | exact Sub.refl _ | exact Sub.none _ | refine Sub.p0 ?_ | refine Sub.p1 ?_ | refine Sub.p2 ?_ | refine Sub.p3 ?_ | refine Sub.p4 ?_ | refine Sub.p5 ?_ | refine Sub.p6 ?_ | refine Sub.drop ?_)
  rintro _ _ ⟨rfl, rfl⟩
  refine sl_nil ?_
  refine sw_false rfl (rfl) ?_
  refine sw_skip ?_
  refine sw_seq ?_
  refine sl_region ?_
  refine sl_mv rfl rfl rfl ?_
  refine sl_as rfl rfl rfl ?_
  refine sl_nil ?_
  refine sw_ret ⟨rfl, _, _, res_one rfl rfl, ?_, ⟨rfl, rfl⟩⟩
  repeat (first | exact Sub.refl _ | exact Sub.none _ | refine Sub.p0 ?_ | refine Sub.p1 ?_ | refine Sub.p2 ?_ | refine Sub.p3 ?_ | refine Sub.p4 ?_ | refine Sub.p5 ?_ | refine Sub.p6 ?_ | refine Sub.drop ?_)

theorem pInt_ok (q : Nat) (st : Option (List UInt8)) (c : Chunk) (σ : List Chunk) (h : Rdr q st c) :
    FSpec Try.prog 20 [.ptr q 0] (c :: σ) (fun d σ' => d = .val (i64V (rdOf (decI) (0 : Int) st).1) ∧ ∃ c', Rdr q (rdOf (decI) (0 : Int) st).2 c' ∧ σ' = c' :: σ) := by
  cases st with
  | some l => obtain ⟨rfl, hl⟩ := h; exact pInt_good q l σ hl
  | none => obtain ⟨r, rfl⟩ := h; exact (pInt_bad q r σ).mono fun d σ' h => ⟨h.1, _, ⟨r, rfl⟩, h.2⟩

theorem cNum_ok (q b1 b3 : Nat) (y : D) (l : List UInt8) (σ : List Chunk) :
    FSpecP Try.prog 72 [.ptr b1 0, .ptr b3 0] (rd q l false :: .blk b1 [.ptr q 0] :: .blk b3 [y] :: σ)
      (fun d σ' => ∃ x' xs', GoodR (decN 0 l) u64V x' xs' ∧ σ' = .blk q [x', .val (.bool false)] :: .blk b1 [.ptr q 0] :: .blk b3 xs' :: σ)
      (fun ch σ' => ch = stop ∧ ∃ x' xs', BadR (decN 0 l) x' ∧ σ' = .blk q [x', .val (.bool false)] :: .blk b1 [.ptr q 0] :: .blk b3 xs' :: σ) := by
  refine spec_of_sw Try.func72 rfl ?_
  refine sl_region ?_
  first
    | refine sl_load_rp1 rfl rfl rfl ag_31 rfl ?_
    | refine sl_load_blk1 rfl rfl rfl ag_31 (by first | exact List.Mem.head _ | exact List.Mem.tail _ (List.Mem.head _) | exact List.Mem.tail _ (List.Mem.tail _ (List.Mem.head _)) | exact List.Mem.tail _ (List.Mem.tail _ (List.Mem.tail _ (List.Mem.head _))) | exact List.Mem.tail _ (List.Mem.tail _ (List.Mem.tail _ (List.Mem.tail _ (List.Mem.head _)))) | exact List.Mem.tail _ (List.Mem.tail _ (List.Mem.tail _ (List.Mem.tail _ (List.Mem.tail _ (List.Mem.head _)))))) rfl ?_
  refine sl_callf rfl rfl cal_73 (rnum_ok q l (.blk b1 [.ptr q 0] :: .blk b3 [y] :: σ)) ?_ ?_ ?_ (fun _ _ h => by obtain ⟨h1, rfl, r, rfl⟩ := h; exact ⟨rfl, _, Sub.refl _, rfl, _, _, ⟨h1, _, rfl⟩, rfl⟩)
  · repeat (first | exact Weaks.nil | refine Weaks.cons (Weak.junk _) ?_ | refine Weaks.cons (Weak.refl _) ?_ | refine Weaks.cons (Weak.toV rfl) ?_ | refine Weaks.cons (Weak.ref _) ?_ | refine Weaks.cons (Weak.rp_agg _) ?_)
  · repeat (first | exact Sub.refl _ | exact Sub.none _ | refine Sub.p0 ?_ | refine Sub.p1 ?_ | refine Sub.p2 ?_ | refine Sub.p3 ?_ | refine Sub.p4 ?_ | refine Sub.p5 ?_ | refine Sub.p6 ?_ | refine Sub.drop ?_)
  rintro _ _ ⟨n, r, hd, rfl, rfl⟩
  first
    | refine sl_st rfl rfl rfl rfl sz_37 rfl rfl rfl (Nat.le_of_ble_eq_true rfl) ?_
    | (refine sl_f1 ?_; refine sl_st rfl rfl rfl rfl sz_37 rfl rfl rfl (Nat.le_of_ble_eq_true rfl) ?_)
    | (refine sl_f2 ?_; refine sl_st rfl rfl rfl rfl sz_37 rfl rfl rfl (Nat.le_of_ble_eq_true rfl) ?_)
    | (refine sl_f3 ?_; refine sl_st rfl rfl rfl rfl sz_37 rfl rfl rfl (Nat.le_of_ble_eq_true rfl) ?_)
    | (refine sl_f4 ?_; refine sl_st rfl rfl rfl rfl sz_37 rfl rfl rfl (Nat.le_of_ble_eq_true rfl) ?_)
    | (refine sl_f5 ?_; refine sl_st rfl rfl rfl rfl sz_37 rfl rfl rfl (Nat.le_of_ble_eq_true rfl) ?_)
    | (refine sl_f6 ?_; refine sl_st rfl rfl rfl rfl sz_37 rfl rfl rfl (Nat.le_of_ble_eq_true rfl) ?_)
  refine sl_nil ?_
  refine ⟨rfl, _, _, res_none rfl, ?_, ⟨_, _, ⟨_, _, hd, rfl, rfl⟩, rfl⟩⟩
  repeat (first | exact Sub.refl _ | exact Sub.none _ | refine Sub.p0 ?_ | refine Sub.p1 ?_ | refine Sub.p2 ?_ | refine Sub.p3 ?_ | refine Sub.p4 ?_ | refine Sub.p5 ?_ | refine Sub.p6 ?_ | refine Sub.drop ?_)

/-- Num, of a reader. -/
theorem pNum_good (q : Nat) (l : List UInt8) (σ : List Chunk) (hl : l.length ≤ 100000000) :
    FSpec Try.prog 33 [.ptr q 0] (rd q l false :: σ) (fun d σ' => d = .val (u64V (rdOf (decN 0) (0 : Nat) (some l)).1) ∧ ∃ c', Rdr q (rdOf (decN 0) (0 : Nat) (some l)).2 c' ∧ σ' = c' :: σ) := by
  refine spec_of_sw Try.func33 rfl ?_
  refine sw_seq ?_
  refine sl_region ?_
  refine sl_bx rfl rfl rfl rfl (fun b1 => ?_)
  refine sl_as rfl rfl rfl ?_
  refine sl_nil ?_
  refine sw_seq ?_
  refine sl_region ?_
  refine sl_alloc rfl rfl zd_37 (fun b3 => ?_)
  refine sl_nil ?_
  refine sw_seq ?_
  refine sw_seq ?_
  refine sl_region ?_
  first
    | refine sl_load_rp1 rfl rfl rfl ag_31 rfl ?_
    | refine sl_load_blk1 rfl rfl rfl ag_31 (by first | exact List.Mem.head _ | exact List.Mem.tail _ (List.Mem.head _) | exact List.Mem.tail _ (List.Mem.tail _ (List.Mem.head _)) | exact List.Mem.tail _ (List.Mem.tail _ (List.Mem.tail _ (List.Mem.head _))) | exact List.Mem.tail _ (List.Mem.tail _ (List.Mem.tail _ (List.Mem.tail _ (List.Mem.head _)))) | exact List.Mem.tail _ (List.Mem.tail _ (List.Mem.tail _ (List.Mem.tail _ (List.Mem.tail _ (List.Mem.head _)))))) rfl ?_
  refine sl_mf rfl rfl (.cons rfl (.cons rfl .nil)) ?_
  refine sl_callf rfl rfl cal_60 (try_ok 72 cal_72 q b1 b3 (.val (.list (l.map byteV))) [.val (u64V (0 : Nat))] (GoodR (decN 0 l) u64V) (BadR (decN 0 l)) σ (fun τ => cNum_ok q b1 b3 _ l τ)) ?_ ?_ ?_ (fun _ _ h => h.elim)
  · repeat (first | exact Weaks.nil | refine Weaks.cons (Weak.junk _) ?_ | refine Weaks.cons (Weak.refl _) ?_ | refine Weaks.cons (Weak.toV rfl) ?_ | refine Weaks.cons (Weak.ref _) ?_ | refine Weaks.cons (Weak.rp_agg _) ?_)
  · repeat (first | exact Sub.refl _ | exact Sub.none _ | refine Sub.p0 ?_ | refine Sub.p1 ?_ | refine Sub.p2 ?_ | refine Sub.p3 ?_ | refine Sub.p4 ?_ | refine Sub.p5 ?_ | refine Sub.p6 ?_ | refine Sub.drop ?_)
  rintro _ _ ⟨x', xs', ok, rfl, hgood, hbad, rfl⟩
  refine sl_nil ?_
  refine sw_cond rfl (fun hok => ?_) (fun hok => ?_)
  · obtain rfl : ok = true := hok
    obtain ⟨v, r, hd, rfl, rfl⟩ := hgood rfl
    refine sl_region ?_
    first
      | refine sl_load_rp1 rfl rfl rfl ag_37 rfl ?_
      | refine sl_load_blk1 rfl rfl rfl ag_37 (by first | exact List.Mem.head _ | exact List.Mem.tail _ (List.Mem.head _) | exact List.Mem.tail _ (List.Mem.tail _ (List.Mem.head _)) | exact List.Mem.tail _ (List.Mem.tail _ (List.Mem.tail _ (List.Mem.head _))) | exact List.Mem.tail _ (List.Mem.tail _ (List.Mem.tail _ (List.Mem.tail _ (List.Mem.head _)))) | exact List.Mem.tail _ (List.Mem.tail _ (List.Mem.tail _ (List.Mem.tail _ (List.Mem.tail _ (List.Mem.head _)))))) rfl ?_
    refine sl_as rfl rfl rfl ?_
    refine sl_nil ?_
    refine sw_seq ?_
    refine sl_region ?_
    refine sl_mv rfl rfl rfl ?_
    refine sl_as rfl rfl rfl ?_
    refine sl_nil ?_
    refine sw_ret ⟨rfl, _, _, res_one rfl rfl, ?_, by rw [rdOf_good hd]; exact ⟨rfl, _, ⟨rfl, Nat.le_trans (decN_len hd) hl⟩, rfl⟩⟩
    repeat (first | exact Sub.refl _ | exact Sub.none _ | refine Sub.p0 ?_ | refine Sub.p1 ?_ | refine Sub.p2 ?_ | refine Sub.p3 ?_ | refine Sub.p4 ?_ | refine Sub.p5 ?_ | refine Sub.p6 ?_ | refine Sub.drop ?_)
  · obtain rfl : ok = false := hok
    obtain ⟨hd, r, rfl⟩ := hbad rfl
    refine sw_skip ?_
    refine sw_seq ?_
    refine sl_region ?_
    refine sl_mv rfl rfl rfl ?_
    refine sl_as rfl rfl rfl ?_
    refine sl_nil ?_
    refine sw_ret ⟨rfl, _, _, res_one rfl rfl, ?_, by rw [rdOf_bad hd]; exact ⟨rfl, _, ⟨r, rfl⟩, rfl⟩⟩
    repeat (first | exact Sub.refl _ | exact Sub.none _ | refine Sub.p0 ?_ | refine Sub.p1 ?_ | refine Sub.p2 ?_ | refine Sub.p3 ?_ | refine Sub.p4 ?_ | refine Sub.p5 ?_ | refine Sub.p6 ?_ | refine Sub.drop ?_)

theorem pNum_bad (q : Nat) (l : List UInt8) (σ : List Chunk) :
    FSpec Try.prog 33 [.ptr q 0] (rd q l true :: σ) (fun d σ' => d = .val (u64V (0 : Nat)) ∧ σ' = rd q l true :: σ) := by
  refine spec_of_sw Try.func33 rfl ?_
  refine sw_seq ?_
  refine sl_region ?_
  refine sl_bx rfl rfl rfl rfl (fun b1 => ?_)
  refine sl_as rfl rfl rfl ?_
  refine sl_nil ?_
  refine sw_seq ?_
  refine sl_region ?_
  refine sl_alloc rfl rfl zd_37 (fun b3 => ?_)
  refine sl_nil ?_
  refine sw_seq ?_
  refine sw_seq ?_
  refine sl_region ?_
  first
    | refine sl_load_rp1 rfl rfl rfl ag_31 rfl ?_
    | refine sl_load_blk1 rfl rfl rfl ag_31 (by first | exact List.Mem.head _ | exact List.Mem.tail _ (List.Mem.head _) | exact List.Mem.tail _ (List.Mem.tail _ (List.Mem.head _)) | exact List.Mem.tail _ (List.Mem.tail _ (List.Mem.tail _ (List.Mem.head _))) | exact List.Mem.tail _ (List.Mem.tail _ (List.Mem.tail _ (List.Mem.tail _ (List.Mem.head _)))) | exact List.Mem.tail _ (List.Mem.tail _ (List.Mem.tail _ (List.Mem.tail _ (List.Mem.tail _ (List.Mem.head _)))))) rfl ?_
  refine sl_mf rfl rfl (.cons rfl (.cons rfl .nil)) ?_
  refine sl_callf rfl rfl cal_60 (try_bad (.func 72 [.ptr b1 0, .ptr b3 0]) q (.val (.list (l.map byteV))) (.blk b1 [.ptr q 0] :: .blk b3 [.val (u64V (0 : Nat))] :: σ)) ?_ ?_ ?_ (fun _ _ h => h.elim)
  · repeat (first | exact Weaks.nil | refine Weaks.cons (Weak.junk _) ?_ | refine Weaks.cons (Weak.refl _) ?_ | refine Weaks.cons (Weak.toV rfl) ?_ | refine Weaks.cons (Weak.ref _) ?_ | refine Weaks.cons (Weak.rp_agg _) ?_)
  · repeat (first | exact Sub.refl _ | exact Sub.none _ | refine Sub.p0 ?_ | refine Sub.p1 ?_ | refine Sub.p2 ?_ | refine Sub.p3 ?_ | refine Sub.p4 ?_ | refine Sub.p5 ?_ | refine Sub.p6 ?_ | refine Sub.drop ?_)
  rintro _ _ ⟨rfl, rfl⟩
  refine sl_nil ?_
  refine sw_false rfl (rfl) ?_
  refine sw_skip ?_
  refine sw_seq ?_
  refine sl_region ?_
  refine sl_mv rfl rfl rfl ?_
  refine sl_as rfl rfl rfl ?_
  refine sl_nil ?_
  refine sw_ret ⟨rfl, _, _, res_one rfl rfl, ?_, ⟨rfl, rfl⟩⟩
  repeat (first | exact Sub.refl _ | exact Sub.none _ | refine Sub.p0 ?_ | refine Sub.p1 ?_ | refine Sub.p2 ?_ | refine Sub.p3 ?_ | refine Sub.p4 ?_ | refine Sub.p5 ?_ | refine Sub.p6 ?_ | refine Sub.drop ?_)

theorem pNum_ok (q : Nat) (st : Option (List UInt8)) (c : Chunk) (σ : List Chunk) (h : Rdr q st c) :
    FSpec Try.prog 33 [.ptr q 0] (c :: σ) (fun d σ' => d = .val (u64V (rdOf (decN 0) (0 : Nat) st).1) ∧ ∃ c', Rdr q (rdOf (decN 0) (0 : Nat) st).2 c' ∧ σ' = c' :: σ) := by
  cases st with
  | some l => obtain ⟨rfl, hl⟩ := h; exact pNum_good q l σ hl
  | none => obtain ⟨r, rfl⟩ := h; exact (pNum_bad q r σ).mono fun d σ' h => ⟨h.1, _, ⟨r, rfl⟩, h.2⟩

theorem cText_ok (q b1 b3 : Nat) (y : D) (l : List UInt8) (σ : List Chunk) (hl : l.length ≤ 100000000) :
    FSpecP Try.prog 70 [.ptr b1 0, .ptr b3 0] (rd q l false :: .blk b1 [.ptr q 0] :: .blk b3 [y] :: σ)
      (fun d σ' => ∃ x' xs', GoodR (decT l) strV x' xs' ∧ σ' = .blk q [x', .val (.bool false)] :: .blk b1 [.ptr q 0] :: .blk b3 xs' :: σ)
      (fun ch σ' => ch = stop ∧ ∃ x' xs', BadR (decT l) x' ∧ σ' = .blk q [x', .val (.bool false)] :: .blk b1 [.ptr q 0] :: .blk b3 xs' :: σ) := by
  refine spec_of_sw Try.func70 rfl ?_
  refine sl_region ?_
  first
    | refine sl_load_rp1 rfl rfl rfl ag_31 rfl ?_
    | refine sl_load_blk1 rfl rfl rfl ag_31 (by first | exact List.Mem.head _ | exact List.Mem.tail _ (List.Mem.head _) | exact List.Mem.tail _ (List.Mem.tail _ (List.Mem.head _)) | exact List.Mem.tail _ (List.Mem.tail _ (List.Mem.tail _ (List.Mem.head _))) | exact List.Mem.tail _ (List.Mem.tail _ (List.Mem.tail _ (List.Mem.tail _ (List.Mem.head _)))) | exact List.Mem.tail _ (List.Mem.tail _ (List.Mem.tail _ (List.Mem.tail _ (List.Mem.tail _ (List.Mem.head _)))))) rfl ?_
  refine sl_callf rfl rfl cal_71 (rtext_ok q l (.blk b1 [.ptr q 0] :: .blk b3 [y] :: σ) hl) ?_ ?_ ?_ (fun _ _ h => by obtain ⟨h1, rfl, r, rfl⟩ := h; exact ⟨rfl, _, Sub.refl _, rfl, _, _, ⟨h1, _, rfl⟩, rfl⟩)
  · repeat (first | exact Weaks.nil | refine Weaks.cons (Weak.junk _) ?_ | refine Weaks.cons (Weak.refl _) ?_ | refine Weaks.cons (Weak.toV rfl) ?_ | refine Weaks.cons (Weak.ref _) ?_ | refine Weaks.cons (Weak.rp_agg _) ?_)
  · repeat (first | exact Sub.refl _ | exact Sub.none _ | refine Sub.p0 ?_ | refine Sub.p1 ?_ | refine Sub.p2 ?_ | refine Sub.p3 ?_ | refine Sub.p4 ?_ | refine Sub.p5 ?_ | refine Sub.p6 ?_ | refine Sub.drop ?_)
  rintro _ _ ⟨n, r, hd, rfl, rfl⟩
  first
    | refine sl_st rfl rfl rfl rfl sz_9 rfl rfl rfl (Nat.le_of_ble_eq_true rfl) ?_
    | (refine sl_f1 ?_; refine sl_st rfl rfl rfl rfl sz_9 rfl rfl rfl (Nat.le_of_ble_eq_true rfl) ?_)
    | (refine sl_f2 ?_; refine sl_st rfl rfl rfl rfl sz_9 rfl rfl rfl (Nat.le_of_ble_eq_true rfl) ?_)
    | (refine sl_f3 ?_; refine sl_st rfl rfl rfl rfl sz_9 rfl rfl rfl (Nat.le_of_ble_eq_true rfl) ?_)
    | (refine sl_f4 ?_; refine sl_st rfl rfl rfl rfl sz_9 rfl rfl rfl (Nat.le_of_ble_eq_true rfl) ?_)
    | (refine sl_f5 ?_; refine sl_st rfl rfl rfl rfl sz_9 rfl rfl rfl (Nat.le_of_ble_eq_true rfl) ?_)
    | (refine sl_f6 ?_; refine sl_st rfl rfl rfl rfl sz_9 rfl rfl rfl (Nat.le_of_ble_eq_true rfl) ?_)
  refine sl_nil ?_
  refine ⟨rfl, _, _, res_none rfl, ?_, ⟨_, _, ⟨_, _, hd, rfl, rfl⟩, rfl⟩⟩
  repeat (first | exact Sub.refl _ | exact Sub.none _ | refine Sub.p0 ?_ | refine Sub.p1 ?_ | refine Sub.p2 ?_ | refine Sub.p3 ?_ | refine Sub.p4 ?_ | refine Sub.p5 ?_ | refine Sub.p6 ?_ | refine Sub.drop ?_)

/-- Text, of a reader. -/
theorem pText_good (q : Nat) (l : List UInt8) (σ : List Chunk) (hl : l.length ≤ 100000000) :
    FSpec Try.prog 32 [.ptr q 0] (rd q l false :: σ) (fun d σ' => d = .val (strV (rdOf (decT) ([] : List UInt8) (some l)).1) ∧ ∃ c', Rdr q (rdOf (decT) ([] : List UInt8) (some l)).2 c' ∧ σ' = c' :: σ) := by
  refine spec_of_sw Try.func32 rfl ?_
  refine sw_seq ?_
  refine sl_region ?_
  refine sl_bx rfl rfl rfl rfl (fun b1 => ?_)
  refine sl_as rfl rfl rfl ?_
  refine sl_nil ?_
  refine sw_seq ?_
  refine sl_region ?_
  refine sl_alloc rfl rfl zd_9 (fun b3 => ?_)
  refine sl_nil ?_
  refine sw_seq ?_
  refine sw_seq ?_
  refine sl_region ?_
  first
    | refine sl_load_rp1 rfl rfl rfl ag_31 rfl ?_
    | refine sl_load_blk1 rfl rfl rfl ag_31 (by first | exact List.Mem.head _ | exact List.Mem.tail _ (List.Mem.head _) | exact List.Mem.tail _ (List.Mem.tail _ (List.Mem.head _)) | exact List.Mem.tail _ (List.Mem.tail _ (List.Mem.tail _ (List.Mem.head _))) | exact List.Mem.tail _ (List.Mem.tail _ (List.Mem.tail _ (List.Mem.tail _ (List.Mem.head _)))) | exact List.Mem.tail _ (List.Mem.tail _ (List.Mem.tail _ (List.Mem.tail _ (List.Mem.tail _ (List.Mem.head _)))))) rfl ?_
  refine sl_mf rfl rfl (.cons rfl (.cons rfl .nil)) ?_
  refine sl_callf rfl rfl cal_60 (try_ok 70 cal_70 q b1 b3 (.val (.list (l.map byteV))) [.val (strV ([] : List UInt8))] (GoodR (decT l) strV) (BadR (decT l)) σ (fun τ => cText_ok q b1 b3 _ l τ hl)) ?_ ?_ ?_ (fun _ _ h => h.elim)
  · repeat (first | exact Weaks.nil | refine Weaks.cons (Weak.junk _) ?_ | refine Weaks.cons (Weak.refl _) ?_ | refine Weaks.cons (Weak.toV rfl) ?_ | refine Weaks.cons (Weak.ref _) ?_ | refine Weaks.cons (Weak.rp_agg _) ?_)
  · repeat (first | exact Sub.refl _ | exact Sub.none _ | refine Sub.p0 ?_ | refine Sub.p1 ?_ | refine Sub.p2 ?_ | refine Sub.p3 ?_ | refine Sub.p4 ?_ | refine Sub.p5 ?_ | refine Sub.p6 ?_ | refine Sub.drop ?_)
  rintro _ _ ⟨x', xs', ok, rfl, hgood, hbad, rfl⟩
  refine sl_nil ?_
  refine sw_cond rfl (fun hok => ?_) (fun hok => ?_)
  · obtain rfl : ok = true := hok
    obtain ⟨v, r, hd, rfl, rfl⟩ := hgood rfl
    refine sl_region ?_
    first
      | refine sl_load_rp1 rfl rfl rfl ag_9 rfl ?_
      | refine sl_load_blk1 rfl rfl rfl ag_9 (by first | exact List.Mem.head _ | exact List.Mem.tail _ (List.Mem.head _) | exact List.Mem.tail _ (List.Mem.tail _ (List.Mem.head _)) | exact List.Mem.tail _ (List.Mem.tail _ (List.Mem.tail _ (List.Mem.head _))) | exact List.Mem.tail _ (List.Mem.tail _ (List.Mem.tail _ (List.Mem.tail _ (List.Mem.head _)))) | exact List.Mem.tail _ (List.Mem.tail _ (List.Mem.tail _ (List.Mem.tail _ (List.Mem.tail _ (List.Mem.head _)))))) rfl ?_
    refine sl_as rfl rfl rfl ?_
    refine sl_nil ?_
    refine sw_seq ?_
    refine sl_region ?_
    refine sl_mv rfl rfl rfl ?_
    refine sl_as rfl rfl rfl ?_
    refine sl_nil ?_
    refine sw_ret ⟨rfl, _, _, res_one rfl rfl, ?_, by rw [rdOf_good hd]; exact ⟨rfl, _, ⟨rfl, Nat.le_trans (decT_len hd) hl⟩, rfl⟩⟩
    repeat (first | exact Sub.refl _ | exact Sub.none _ | refine Sub.p0 ?_ | refine Sub.p1 ?_ | refine Sub.p2 ?_ | refine Sub.p3 ?_ | refine Sub.p4 ?_ | refine Sub.p5 ?_ | refine Sub.p6 ?_ | refine Sub.drop ?_)
  · obtain rfl : ok = false := hok
    obtain ⟨hd, r, rfl⟩ := hbad rfl
    refine sw_skip ?_
    refine sw_seq ?_
    refine sl_region ?_
    refine sl_mv rfl rfl rfl ?_
    refine sl_as rfl rfl rfl ?_
    refine sl_nil ?_
    refine sw_ret ⟨rfl, _, _, res_one rfl rfl, ?_, by rw [rdOf_bad hd]; exact ⟨rfl, _, ⟨r, rfl⟩, rfl⟩⟩
    repeat (first | exact Sub.refl _ | exact Sub.none _ | refine Sub.p0 ?_ | refine Sub.p1 ?_ | refine Sub.p2 ?_ | refine Sub.p3 ?_ | refine Sub.p4 ?_ | refine Sub.p5 ?_ | refine Sub.p6 ?_ | refine Sub.drop ?_)

theorem pText_bad (q : Nat) (l : List UInt8) (σ : List Chunk) :
    FSpec Try.prog 32 [.ptr q 0] (rd q l true :: σ) (fun d σ' => d = .val (strV ([] : List UInt8)) ∧ σ' = rd q l true :: σ) := by
  refine spec_of_sw Try.func32 rfl ?_
  refine sw_seq ?_
  refine sl_region ?_
  refine sl_bx rfl rfl rfl rfl (fun b1 => ?_)
  refine sl_as rfl rfl rfl ?_
  refine sl_nil ?_
  refine sw_seq ?_
  refine sl_region ?_
  refine sl_alloc rfl rfl zd_9 (fun b3 => ?_)
  refine sl_nil ?_
  refine sw_seq ?_
  refine sw_seq ?_
  refine sl_region ?_
  first
    | refine sl_load_rp1 rfl rfl rfl ag_31 rfl ?_
    | refine sl_load_blk1 rfl rfl rfl ag_31 (by first | exact List.Mem.head _ | exact List.Mem.tail _ (List.Mem.head _) | exact List.Mem.tail _ (List.Mem.tail _ (List.Mem.head _)) | exact List.Mem.tail _ (List.Mem.tail _ (List.Mem.tail _ (List.Mem.head _))) | exact List.Mem.tail _ (List.Mem.tail _ (List.Mem.tail _ (List.Mem.tail _ (List.Mem.head _)))) | exact List.Mem.tail _ (List.Mem.tail _ (List.Mem.tail _ (List.Mem.tail _ (List.Mem.tail _ (List.Mem.head _)))))) rfl ?_
  refine sl_mf rfl rfl (.cons rfl (.cons rfl .nil)) ?_
  refine sl_callf rfl rfl cal_60 (try_bad (.func 70 [.ptr b1 0, .ptr b3 0]) q (.val (.list (l.map byteV))) (.blk b1 [.ptr q 0] :: .blk b3 [.val (strV ([] : List UInt8))] :: σ)) ?_ ?_ ?_ (fun _ _ h => h.elim)
  · repeat (first | exact Weaks.nil | refine Weaks.cons (Weak.junk _) ?_ | refine Weaks.cons (Weak.refl _) ?_ | refine Weaks.cons (Weak.toV rfl) ?_ | refine Weaks.cons (Weak.ref _) ?_ | refine Weaks.cons (Weak.rp_agg _) ?_)
  · repeat (first | exact Sub.refl _ | exact Sub.none _ | refine Sub.p0 ?_ | refine Sub.p1 ?_ | refine Sub.p2 ?_ | refine Sub.p3 ?_ | refine Sub.p4 ?_ | refine Sub.p5 ?_ | refine Sub.p6 ?_ | refine Sub.drop ?_)
  rintro _ _ ⟨rfl, rfl⟩
  refine sl_nil ?_
  refine sw_false rfl (rfl) ?_
  refine sw_skip ?_
  refine sw_seq ?_
  refine sl_region ?_
  refine sl_mv rfl rfl rfl ?_
  refine sl_as rfl rfl rfl ?_
  refine sl_nil ?_
  refine sw_ret ⟨rfl, _, _, res_one rfl rfl, ?_, ⟨rfl, rfl⟩⟩
  repeat (first | exact Sub.refl _ | exact Sub.none _ | refine Sub.p0 ?_ | refine Sub.p1 ?_ | refine Sub.p2 ?_ | refine Sub.p3 ?_ | refine Sub.p4 ?_ | refine Sub.p5 ?_ | refine Sub.p6 ?_ | refine Sub.drop ?_)

theorem pText_ok (q : Nat) (st : Option (List UInt8)) (c : Chunk) (σ : List Chunk) (h : Rdr q st c) :
    FSpec Try.prog 32 [.ptr q 0] (c :: σ) (fun d σ' => d = .val (strV (rdOf (decT) ([] : List UInt8) st).1) ∧ ∃ c', Rdr q (rdOf (decT) ([] : List UInt8) st).2 c' ∧ σ' = c' :: σ) := by
  cases st with
  | some l => obtain ⟨rfl, hl⟩ := h; exact pText_good q l σ hl
  | none => obtain ⟨r, rfl⟩ := h; exact (pText_bad q r σ).mono fun d σ' h => ⟨h.1, _, ⟨r, rfl⟩, h.2⟩

theorem cBool_ok (q b1 b3 : Nat) (y : D) (l : List UInt8) (σ : List Chunk) :
    FSpecP Try.prog 74 [.ptr b1 0, .ptr b3 0] (rd q l false :: .blk b1 [.ptr q 0] :: .blk b3 [y] :: σ)
      (fun d σ' => ∃ x' xs', GoodR (decB l) boolV x' xs' ∧ σ' = .blk q [x', .val (.bool false)] :: .blk b1 [.ptr q 0] :: .blk b3 xs' :: σ)
      (fun ch σ' => ch = stop ∧ ∃ x' xs', BadR (decB l) x' ∧ σ' = .blk q [x', .val (.bool false)] :: .blk b1 [.ptr q 0] :: .blk b3 xs' :: σ) := by
  refine spec_of_sw Try.func74 rfl ?_
  refine sl_region ?_
  first
    | refine sl_load_rp1 rfl rfl rfl ag_31 rfl ?_
    | refine sl_load_blk1 rfl rfl rfl ag_31 (by first | exact List.Mem.head _ | exact List.Mem.tail _ (List.Mem.head _) | exact List.Mem.tail _ (List.Mem.tail _ (List.Mem.head _)) | exact List.Mem.tail _ (List.Mem.tail _ (List.Mem.tail _ (List.Mem.head _))) | exact List.Mem.tail _ (List.Mem.tail _ (List.Mem.tail _ (List.Mem.tail _ (List.Mem.head _)))) | exact List.Mem.tail _ (List.Mem.tail _ (List.Mem.tail _ (List.Mem.tail _ (List.Mem.tail _ (List.Mem.head _)))))) rfl ?_
  refine sl_callf rfl rfl cal_75 (rbool_ok q l (.blk b1 [.ptr q 0] :: .blk b3 [y] :: σ)) ?_ ?_ ?_ (fun _ _ h => by obtain ⟨h1, rfl, r, rfl⟩ := h; exact ⟨rfl, _, Sub.refl _, rfl, _, _, ⟨h1, _, rfl⟩, rfl⟩)
  · repeat (first | exact Weaks.nil | refine Weaks.cons (Weak.junk _) ?_ | refine Weaks.cons (Weak.refl _) ?_ | refine Weaks.cons (Weak.toV rfl) ?_ | refine Weaks.cons (Weak.ref _) ?_ | refine Weaks.cons (Weak.rp_agg _) ?_)
  · repeat (first | exact Sub.refl _ | exact Sub.none _ | refine Sub.p0 ?_ | refine Sub.p1 ?_ | refine Sub.p2 ?_ | refine Sub.p3 ?_ | refine Sub.p4 ?_ | refine Sub.p5 ?_ | refine Sub.p6 ?_ | refine Sub.drop ?_)
  rintro _ _ ⟨n, r, hd, rfl, rfl⟩
  first
    | refine sl_st rfl rfl rfl rfl sz_4 rfl rfl rfl (Nat.le_of_ble_eq_true rfl) ?_
    | (refine sl_f1 ?_; refine sl_st rfl rfl rfl rfl sz_4 rfl rfl rfl (Nat.le_of_ble_eq_true rfl) ?_)
    | (refine sl_f2 ?_; refine sl_st rfl rfl rfl rfl sz_4 rfl rfl rfl (Nat.le_of_ble_eq_true rfl) ?_)
    | (refine sl_f3 ?_; refine sl_st rfl rfl rfl rfl sz_4 rfl rfl rfl (Nat.le_of_ble_eq_true rfl) ?_)
    | (refine sl_f4 ?_; refine sl_st rfl rfl rfl rfl sz_4 rfl rfl rfl (Nat.le_of_ble_eq_true rfl) ?_)
    | (refine sl_f5 ?_; refine sl_st rfl rfl rfl rfl sz_4 rfl rfl rfl (Nat.le_of_ble_eq_true rfl) ?_)
    | (refine sl_f6 ?_; refine sl_st rfl rfl rfl rfl sz_4 rfl rfl rfl (Nat.le_of_ble_eq_true rfl) ?_)
  refine sl_nil ?_
  refine ⟨rfl, _, _, res_none rfl, ?_, ⟨_, _, ⟨_, _, hd, rfl, rfl⟩, rfl⟩⟩
  repeat (first | exact Sub.refl _ | exact Sub.none _ | refine Sub.p0 ?_ | refine Sub.p1 ?_ | refine Sub.p2 ?_ | refine Sub.p3 ?_ | refine Sub.p4 ?_ | refine Sub.p5 ?_ | refine Sub.p6 ?_ | refine Sub.drop ?_)

/-- Bool, of a reader. -/
theorem pBool_good (q : Nat) (l : List UInt8) (σ : List Chunk) (hl : l.length ≤ 100000000) :
    FSpec Try.prog 34 [.ptr q 0] (rd q l false :: σ) (fun d σ' => d = .val (boolV (rdOf (decB) false (some l)).1) ∧ ∃ c', Rdr q (rdOf (decB) false (some l)).2 c' ∧ σ' = c' :: σ) := by
  refine spec_of_sw Try.func34 rfl ?_
  refine sw_seq ?_
  refine sl_region ?_
  refine sl_bx rfl rfl rfl rfl (fun b1 => ?_)
  refine sl_as rfl rfl rfl ?_
  refine sl_nil ?_
  refine sw_seq ?_
  refine sl_region ?_
  refine sl_alloc rfl rfl zd_4 (fun b3 => ?_)
  refine sl_nil ?_
  refine sw_seq ?_
  refine sw_seq ?_
  refine sl_region ?_
  first
    | refine sl_load_rp1 rfl rfl rfl ag_31 rfl ?_
    | refine sl_load_blk1 rfl rfl rfl ag_31 (by first | exact List.Mem.head _ | exact List.Mem.tail _ (List.Mem.head _) | exact List.Mem.tail _ (List.Mem.tail _ (List.Mem.head _)) | exact List.Mem.tail _ (List.Mem.tail _ (List.Mem.tail _ (List.Mem.head _))) | exact List.Mem.tail _ (List.Mem.tail _ (List.Mem.tail _ (List.Mem.tail _ (List.Mem.head _)))) | exact List.Mem.tail _ (List.Mem.tail _ (List.Mem.tail _ (List.Mem.tail _ (List.Mem.tail _ (List.Mem.head _)))))) rfl ?_
  refine sl_mf rfl rfl (.cons rfl (.cons rfl .nil)) ?_
  refine sl_callf rfl rfl cal_60 (try_ok 74 cal_74 q b1 b3 (.val (.list (l.map byteV))) [.val (boolV false)] (GoodR (decB l) boolV) (BadR (decB l)) σ (fun τ => cBool_ok q b1 b3 _ l τ)) ?_ ?_ ?_ (fun _ _ h => h.elim)
  · repeat (first | exact Weaks.nil | refine Weaks.cons (Weak.junk _) ?_ | refine Weaks.cons (Weak.refl _) ?_ | refine Weaks.cons (Weak.toV rfl) ?_ | refine Weaks.cons (Weak.ref _) ?_ | refine Weaks.cons (Weak.rp_agg _) ?_)
  · repeat (first | exact Sub.refl _ | exact Sub.none _ | refine Sub.p0 ?_ | refine Sub.p1 ?_ | refine Sub.p2 ?_ | refine Sub.p3 ?_ | refine Sub.p4 ?_ | refine Sub.p5 ?_ | refine Sub.p6 ?_ | refine Sub.drop ?_)
  rintro _ _ ⟨x', xs', ok, rfl, hgood, hbad, rfl⟩
  refine sl_nil ?_
  refine sw_cond rfl (fun hok => ?_) (fun hok => ?_)
  · obtain rfl : ok = true := hok
    obtain ⟨v, r, hd, rfl, rfl⟩ := hgood rfl
    refine sl_region ?_
    first
      | refine sl_load_rp1 rfl rfl rfl ag_4 rfl ?_
      | refine sl_load_blk1 rfl rfl rfl ag_4 (by first | exact List.Mem.head _ | exact List.Mem.tail _ (List.Mem.head _) | exact List.Mem.tail _ (List.Mem.tail _ (List.Mem.head _)) | exact List.Mem.tail _ (List.Mem.tail _ (List.Mem.tail _ (List.Mem.head _))) | exact List.Mem.tail _ (List.Mem.tail _ (List.Mem.tail _ (List.Mem.tail _ (List.Mem.head _)))) | exact List.Mem.tail _ (List.Mem.tail _ (List.Mem.tail _ (List.Mem.tail _ (List.Mem.tail _ (List.Mem.head _)))))) rfl ?_
    refine sl_as rfl rfl rfl ?_
    refine sl_nil ?_
    refine sw_seq ?_
    refine sl_region ?_
    refine sl_mv rfl rfl rfl ?_
    refine sl_as rfl rfl rfl ?_
    refine sl_nil ?_
    refine sw_ret ⟨rfl, _, _, res_one rfl rfl, ?_, by rw [rdOf_good hd]; exact ⟨rfl, _, ⟨rfl, Nat.le_trans (decB_len hd) hl⟩, rfl⟩⟩
    repeat (first | exact Sub.refl _ | exact Sub.none _ | refine Sub.p0 ?_ | refine Sub.p1 ?_ | refine Sub.p2 ?_ | refine Sub.p3 ?_ | refine Sub.p4 ?_ | refine Sub.p5 ?_ | refine Sub.p6 ?_ | refine Sub.drop ?_)
  · obtain rfl : ok = false := hok
    obtain ⟨hd, r, rfl⟩ := hbad rfl
    refine sw_skip ?_
    refine sw_seq ?_
    refine sl_region ?_
    refine sl_mv rfl rfl rfl ?_
    refine sl_as rfl rfl rfl ?_
    refine sl_nil ?_
    refine sw_ret ⟨rfl, _, _, res_one rfl rfl, ?_, by rw [rdOf_bad hd]; exact ⟨rfl, _, ⟨r, rfl⟩, rfl⟩⟩
    repeat (first | exact Sub.refl _ | exact Sub.none _ | refine Sub.p0 ?_ | refine Sub.p1 ?_ | refine Sub.p2 ?_ | refine Sub.p3 ?_ | refine Sub.p4 ?_ | refine Sub.p5 ?_ | refine Sub.p6 ?_ | refine Sub.drop ?_)

theorem pBool_bad (q : Nat) (l : List UInt8) (σ : List Chunk) :
    FSpec Try.prog 34 [.ptr q 0] (rd q l true :: σ) (fun d σ' => d = .val (boolV false) ∧ σ' = rd q l true :: σ) := by
  refine spec_of_sw Try.func34 rfl ?_
  refine sw_seq ?_
  refine sl_region ?_
  refine sl_bx rfl rfl rfl rfl (fun b1 => ?_)
  refine sl_as rfl rfl rfl ?_
  refine sl_nil ?_
  refine sw_seq ?_
  refine sl_region ?_
  refine sl_alloc rfl rfl zd_4 (fun b3 => ?_)
  refine sl_nil ?_
  refine sw_seq ?_
  refine sw_seq ?_
  refine sl_region ?_
  first
    | refine sl_load_rp1 rfl rfl rfl ag_31 rfl ?_
    | refine sl_load_blk1 rfl rfl rfl ag_31 (by first | exact List.Mem.head _ | exact List.Mem.tail _ (List.Mem.head _) | exact List.Mem.tail _ (List.Mem.tail _ (List.Mem.head _)) | exact List.Mem.tail _ (List.Mem.tail _ (List.Mem.tail _ (List.Mem.head _))) | exact List.Mem.tail _ (List.Mem.tail _ (List.Mem.tail _ (List.Mem.tail _ (List.Mem.head _)))) | exact List.Mem.tail _ (List.Mem.tail _ (List.Mem.tail _ (List.Mem.tail _ (List.Mem.tail _ (List.Mem.head _)))))) rfl ?_
  refine sl_mf rfl rfl (.cons rfl (.cons rfl .nil)) ?_
  refine sl_callf rfl rfl cal_60 (try_bad (.func 74 [.ptr b1 0, .ptr b3 0]) q (.val (.list (l.map byteV))) (.blk b1 [.ptr q 0] :: .blk b3 [.val (boolV false)] :: σ)) ?_ ?_ ?_ (fun _ _ h => h.elim)
  · repeat (first | exact Weaks.nil | refine Weaks.cons (Weak.junk _) ?_ | refine Weaks.cons (Weak.refl _) ?_ | refine Weaks.cons (Weak.toV rfl) ?_ | refine Weaks.cons (Weak.ref _) ?_ | refine Weaks.cons (Weak.rp_agg _) ?_)
  · repeat (first | exact Sub.refl _ | exact Sub.none _ | refine Sub.p0 ?_ | refine Sub.p1 ?_ | refine Sub.p2 ?_ | refine Sub.p3 ?_ | refine Sub.p4 ?_ | refine Sub.p5 ?_ | refine Sub.p6 ?_ | refine Sub.drop ?_)
  rintro _ _ ⟨rfl, rfl⟩
  refine sl_nil ?_
  refine sw_false rfl (rfl) ?_
  refine sw_skip ?_
  refine sw_seq ?_
  refine sl_region ?_
  refine sl_mv rfl rfl rfl ?_
  refine sl_as rfl rfl rfl ?_
  refine sl_nil ?_
  refine sw_ret ⟨rfl, _, _, res_one rfl rfl, ?_, ⟨rfl, rfl⟩⟩
  repeat (first | exact Sub.refl _ | exact Sub.none _ | refine Sub.p0 ?_ | refine Sub.p1 ?_ | refine Sub.p2 ?_ | refine Sub.p3 ?_ | refine Sub.p4 ?_ | refine Sub.p5 ?_ | refine Sub.p6 ?_ | refine Sub.drop ?_)

theorem pBool_ok (q : Nat) (st : Option (List UInt8)) (c : Chunk) (σ : List Chunk) (h : Rdr q st c) :
    FSpec Try.prog 34 [.ptr q 0] (c :: σ) (fun d σ' => d = .val (boolV (rdOf (decB) false st).1) ∧ ∃ c', Rdr q (rdOf (decB) false st).2 c' ∧ σ' = c' :: σ) := by
  cases st with
  | some l => obtain ⟨rfl, hl⟩ := h; exact pBool_good q l σ hl
  | none => obtain ⟨r, rfl⟩ := h; exact (pBool_bad q r σ).mono fun d σ' h => ⟨h.1, _, ⟨r, rfl⟩, h.2⟩

/-- Done tells whether all was read. -/
theorem done_good (q : Nat) (l : List UInt8) (σ : List Chunk) : FSpec Try.prog 21 [.ptr q 0] (rd q l false :: σ) (fun d σ' => d = .val (.int .i64 (doneV (some l))) ∧ σ' = rd q l false :: σ) := by
  refine spec_of_sw Try.func21 rfl ?_
  refine sw_seq ?_
  refine sl_region ?_
  refine sl_as rfl rfl rfl ?_
  refine sl_nil ?_
  refine sw_seq ?_
  refine sw_seq ?_
  refine sl_region ?_
  refine sl_mv rfl rfl rfl ?_
  refine sl_nc rfl rfl rfl rfl ?_
  first
    | refine sl_fieldAddr_ptr rfl rfl rfl fo_113_1 ?_
    | refine sl_fieldAddr_rp rfl rfl rfl fo_113_1 ?_
    | refine sl_fieldAddr_ref rfl rfl rfl fo_113_1 ?_
  first
    | refine sl_load_rp1 rfl rfl rfl ag_4 rfl ?_
    | refine sl_load_blk1 rfl rfl rfl ag_4 (by first | exact List.Mem.head _ | exact List.Mem.tail _ (List.Mem.head _) | exact List.Mem.tail _ (List.Mem.tail _ (List.Mem.head _)) | exact List.Mem.tail _ (List.Mem.tail _ (List.Mem.tail _ (List.Mem.head _))) | exact List.Mem.tail _ (List.Mem.tail _ (List.Mem.tail _ (List.Mem.tail _ (List.Mem.head _)))) | exact List.Mem.tail _ (List.Mem.tail _ (List.Mem.tail _ (List.Mem.tail _ (List.Mem.tail _ (List.Mem.head _)))))) rfl ?_
  refine sl_mv rfl rfl rfl ?_
  refine sl_guard_y rfl rfl rfl (rfl) ?_
  refine sl_mv rfl rfl rfl ?_
  refine sl_guard_y rfl rfl rfl (rfl) ?_
  refine sl_nc rfl rfl rfl rfl ?_
  refine sl_guard_y rfl rfl rfl (rfl) ?_
  first
    | refine sl_fieldAddr_ptr rfl rfl rfl fo_113_0 ?_
    | refine sl_fieldAddr_rp rfl rfl rfl fo_113_0 ?_
    | refine sl_fieldAddr_ref rfl rfl rfl fo_113_0 ?_
  refine sl_guard_y rfl rfl rfl (rfl) ?_
  first
    | refine sl_load_rp1 rfl rfl rfl ag_26 rfl ?_
    | refine sl_load_blk1 rfl rfl rfl ag_26 (by first | exact List.Mem.head _ | exact List.Mem.tail _ (List.Mem.head _) | exact List.Mem.tail _ (List.Mem.tail _ (List.Mem.head _)) | exact List.Mem.tail _ (List.Mem.tail _ (List.Mem.tail _ (List.Mem.head _))) | exact List.Mem.tail _ (List.Mem.tail _ (List.Mem.tail _ (List.Mem.tail _ (List.Mem.head _)))) | exact List.Mem.tail _ (List.Mem.tail _ (List.Mem.tail _ (List.Mem.tail _ (List.Mem.tail _ (List.Mem.head _)))))) rfl ?_
  refine sl_guard_y rfl rfl rfl (rfl) ?_
  first
    | refine sl_len rfl rfl rfl ⟨_, u_26⟩ ?_
    | refine sl_len_sl rfl rfl rfl ⟨_, u_26⟩ ?_
  refine sl_guard_y rfl rfl rfl (rfl) ?_
  refine sl_bin rfl rfl rfl rfl rfl ?_
  refine sl_pk_f rfl rfl rfl (rfl) rfl ?_
  refine sl_nil ?_
  refine sw_cond rfl (fun h => ?_) (fun h => ?_)
  · obtain ⟨x, m, rfl⟩ := len_pos_true h
    refine sw_seq ?_
    refine sl_region ?_
    refine sl_as rfl rfl rfl ?_
    refine sl_nil ?_
    refine sw_ret ⟨rfl, _, _, res_one rfl rfl, ?_, ⟨rfl, rfl⟩⟩
    repeat (first | exact Sub.refl _ | exact Sub.none _ | refine Sub.p0 ?_ | refine Sub.p1 ?_ | refine Sub.p2 ?_ | refine Sub.p3 ?_ | refine Sub.p4 ?_ | refine Sub.p5 ?_ | refine Sub.p6 ?_ | refine Sub.drop ?_)
  · have hm := len_pos_false h
    subst hm
    refine sw_skip ?_
    refine sw_seq ?_
    refine sl_region ?_
    refine sl_as rfl rfl rfl ?_
    refine sl_nil ?_
    refine sw_ret ⟨rfl, _, _, res_one rfl rfl, ?_, ⟨rfl, rfl⟩⟩
    repeat (first | exact Sub.refl _ | exact Sub.none _ | refine Sub.p0 ?_ | refine Sub.p1 ?_ | refine Sub.p2 ?_ | refine Sub.p3 ?_ | refine Sub.p4 ?_ | refine Sub.p5 ?_ | refine Sub.p6 ?_ | refine Sub.drop ?_)

theorem done_bad (q : Nat) (l : List UInt8) (σ : List Chunk) : FSpec Try.prog 21 [.ptr q 0] (rd q l true :: σ) (fun d σ' => d = .val (.int .i64 20) ∧ σ' = rd q l true :: σ) := by
  refine spec_of_sw Try.func21 rfl ?_
  refine sw_seq ?_
  refine sl_region ?_
  refine sl_as rfl rfl rfl ?_
  refine sl_nil ?_
  refine sw_seq ?_
  refine sw_seq ?_
  refine sl_region ?_
  refine sl_mv rfl rfl rfl ?_
  refine sl_nc rfl rfl rfl rfl ?_
  first
    | refine sl_fieldAddr_ptr rfl rfl rfl fo_113_1 ?_
    | refine sl_fieldAddr_rp rfl rfl rfl fo_113_1 ?_
    | refine sl_fieldAddr_ref rfl rfl rfl fo_113_1 ?_
  first
    | refine sl_load_rp1 rfl rfl rfl ag_4 rfl ?_
    | refine sl_load_blk1 rfl rfl rfl ag_4 (by first | exact List.Mem.head _ | exact List.Mem.tail _ (List.Mem.head _) | exact List.Mem.tail _ (List.Mem.tail _ (List.Mem.head _)) | exact List.Mem.tail _ (List.Mem.tail _ (List.Mem.tail _ (List.Mem.head _))) | exact List.Mem.tail _ (List.Mem.tail _ (List.Mem.tail _ (List.Mem.tail _ (List.Mem.head _)))) | exact List.Mem.tail _ (List.Mem.tail _ (List.Mem.tail _ (List.Mem.tail _ (List.Mem.tail _ (List.Mem.head _)))))) rfl ?_
  refine sl_mv rfl rfl rfl ?_
  refine sl_guard_n rfl rfl rfl (rfl) ?_
  refine sl_guard_n rfl rfl rfl (rfl) ?_
  refine sl_guard_n rfl rfl rfl (rfl) ?_
  refine sl_guard_n rfl rfl rfl (rfl) ?_
  refine sl_guard_n rfl rfl rfl (rfl) ?_
  refine sl_guard_n rfl rfl rfl (rfl) ?_
  refine sl_pk_t rfl rfl rfl (rfl) rfl ?_
  refine sl_nil ?_
  refine sw_true rfl (rfl) ?_
  refine sw_seq ?_
  refine sl_region ?_
  refine sl_as rfl rfl rfl ?_
  refine sl_nil ?_
  refine sw_ret ⟨rfl, _, _, res_one rfl rfl, ?_, ⟨rfl, rfl⟩⟩
  repeat (first | exact Sub.refl _ | exact Sub.none _ | refine Sub.p0 ?_ | refine Sub.p1 ?_ | refine Sub.p2 ?_ | refine Sub.p3 ?_ | refine Sub.p4 ?_ | refine Sub.p5 ?_ | refine Sub.p6 ?_ | refine Sub.drop ?_)

theorem done_ok (q : Nat) (st : Option (List UInt8)) (c : Chunk) (σ : List Chunk) (h : Rdr q st c) :
    FSpec Try.prog 21 [.ptr q 0] (c :: σ) (fun d σ' => d = .val (.int .i64 (doneV st)) ∧ σ' = c :: σ) := by
  cases st with
  | some l => obtain ⟨rfl, hl⟩ := h; exact done_good q l σ
  | none => obtain ⟨r, rfl⟩ := h; exact done_bad q r σ

end Go.Proofs.Ytioechdfghglhaa
