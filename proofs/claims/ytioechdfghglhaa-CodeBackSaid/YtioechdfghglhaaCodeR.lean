/- Walks: printed by a program of this session out of its script CodeR. -/
import Derived.Test.YtioechdfghglhaaSlT
import Derived.Test.YtioechdfghglhaaP10
import Derived.Test.YtioechdfghglhaaCodeQ
import Derived.Test.YtioechdfghglhaaCodeO
namespace Go.Proofs.Ytioechdfghglhaa
set_option linter.unusedVariables false
set_option linter.unusedSimpArgs false
set_option maxRecDepth 4000
set_option maxHeartbeats 4000000
open Go Go.RowKit SL


def GoodS (res : Option (Smy × List UInt8)) (x : D) (xs : List D) : Prop := ∃ v r, res = some (v, r) ∧ x = .val (.list (r.map byteV)) ∧ xs = (smyCells v).map D.val
abbrev zeroS : List D := [.fix [], .val (.bool false), .val (.bool false), .val (.int .i64 0), .val (.int .i64 0), .fix []]

theorem cSumm_ok (q b1 b3 : Nat) (l : List UInt8) (σ : List Chunk) (hl : l.length ≤ 100000000) :
    FSpecP Try.prog 84 [.ptr b1 0, .ptr b3 0] (rd q l false :: .blk b1 [.ptr q 0] :: .blk b3 zeroS :: σ)
      (fun d σ' => ∃ x' xs', GoodS (decSumm l) x' xs' ∧ σ' = .blk q [x', .val (.bool false)] :: .blk b1 [.ptr q 0] :: .blk b3 xs' :: σ)
      (fun ch σ' => ch = stop ∧ ∃ x' xs', BadR (decSumm l) x' ∧ σ' = .blk q [x', .val (.bool false)] :: .blk b1 [.ptr q 0] :: .blk b3 xs' :: σ) := by
  refine spec_of_sw Try.func84 rfl ?_
  refine sl_region ?_
  first
    | refine sl_load_rp1 rfl rfl rfl ag_31 rfl ?_
    | refine sl_load_blk1 rfl rfl rfl ag_31 (by first | exact List.Mem.head _ | exact List.Mem.tail _ (List.Mem.head _) | exact List.Mem.tail _ (List.Mem.tail _ (List.Mem.head _)) | exact List.Mem.tail _ (List.Mem.tail _ (List.Mem.tail _ (List.Mem.head _))) | exact List.Mem.tail _ (List.Mem.tail _ (List.Mem.tail _ (List.Mem.tail _ (List.Mem.head _)))) | exact List.Mem.tail _ (List.Mem.tail _ (List.Mem.tail _ (List.Mem.tail _ (List.Mem.tail _ (List.Mem.head _)))))) rfl ?_
  refine sl_callf rfl rfl cal_85 (rsumm_ok q l (.blk b1 [.ptr q 0] :: .blk b3 zeroS :: σ) hl) ?_ ?_ ?_ (fun _ _ h => by obtain ⟨h1, rfl, r, rfl⟩ := h; exact ⟨rfl, _, Sub.refl _, rfl, _, _, ⟨h1, _, rfl⟩, rfl⟩)
  · repeat (first | exact Weaks.nil | refine Weaks.cons (Weak.junk _) ?_ | refine Weaks.cons (Weak.refl _) ?_ | refine Weaks.cons (Weak.toV rfl) ?_ | refine Weaks.cons (Weak.ref _) ?_ | refine Weaks.cons (Weak.rp_agg _) ?_)
  · repeat (first | exact Sub.refl _ | exact Sub.none _ | refine Sub.p0 ?_ | refine Sub.p1 ?_ | refine Sub.p2 ?_ | refine Sub.p3 ?_ | refine Sub.p4 ?_ | refine Sub.p5 ?_ | refine Sub.p6 ?_ | refine Sub.drop ?_)
  rintro _ _ ⟨n, r, hd, hr, rfl, rfl⟩
  first
    | refine sl_st rfl rfl rfl rfl sz_72 rfl rfl rfl (Nat.le_of_ble_eq_true rfl) ?_
    | (refine sl_f1 ?_; refine sl_st rfl rfl rfl rfl sz_72 rfl rfl rfl (Nat.le_of_ble_eq_true rfl) ?_)
    | (refine sl_f2 ?_; refine sl_st rfl rfl rfl rfl sz_72 rfl rfl rfl (Nat.le_of_ble_eq_true rfl) ?_)
    | (refine sl_f3 ?_; refine sl_st rfl rfl rfl rfl sz_72 rfl rfl rfl (Nat.le_of_ble_eq_true rfl) ?_)
    | (refine sl_f4 ?_; refine sl_st rfl rfl rfl rfl sz_72 rfl rfl rfl (Nat.le_of_ble_eq_true rfl) ?_)
    | (refine sl_f5 ?_; refine sl_st rfl rfl rfl rfl sz_72 rfl rfl rfl (Nat.le_of_ble_eq_true rfl) ?_)
    | (refine sl_f6 ?_; refine sl_st rfl rfl rfl rfl sz_72 rfl rfl rfl (Nat.le_of_ble_eq_true rfl) ?_)
  refine sl_nil ?_
  refine ⟨rfl, _, _, res_none rfl, ?_, ⟨_, _, ⟨_, _, hd, rfl, rfl⟩, rfl⟩⟩
  repeat (first | exact Sub.refl _ | exact Sub.none _ | refine Sub.p0 ?_ | refine Sub.p1 ?_ | refine Sub.p2 ?_ | refine Sub.p3 ?_ | refine Sub.p4 ?_ | refine Sub.p5 ?_ | refine Sub.p6 ?_ | refine Sub.drop ?_)

/-- Summary, of a reader. -/
theorem pSumm_good (q : Nat) (l : List UInt8) (σ : List Chunk) (hl : l.length ≤ 100000000) :
    FSpec Try.prog 45 [.ptr q 0] (rd q l false :: σ) (fun d σ' => d = .val (smyV (rdOf decSumm noSumm (some l)).1) ∧ ∃ c', Rdr q (rdOf decSumm noSumm (some l)).2 c' ∧ σ' = c' :: σ) := by
  refine spec_of_sw Try.func45 rfl ?_
  refine sw_seq ?_
  refine sl_region ?_
  refine sl_bx rfl rfl rfl rfl (fun b1 => ?_)
  refine sl_alloc rfl rfl zd_72 (fun b2 => ?_)
  refine sl_nil ?_
  refine sw_seq ?_
  refine sl_region ?_
  refine sl_alloc rfl rfl zd_72 (fun b3 => ?_)
  refine sl_nil ?_
  refine sw_seq ?_
  refine sw_seq ?_
  refine sl_region ?_
  first
    | refine sl_load_rp1 rfl rfl rfl ag_31 rfl ?_
    | refine sl_load_blk1 rfl rfl rfl ag_31 (by first | exact List.Mem.head _ | exact List.Mem.tail _ (List.Mem.head _) | exact List.Mem.tail _ (List.Mem.tail _ (List.Mem.head _)) | exact List.Mem.tail _ (List.Mem.tail _ (List.Mem.tail _ (List.Mem.head _))) | exact List.Mem.tail _ (List.Mem.tail _ (List.Mem.tail _ (List.Mem.tail _ (List.Mem.head _)))) | exact List.Mem.tail _ (List.Mem.tail _ (List.Mem.tail _ (List.Mem.tail _ (List.Mem.tail _ (List.Mem.head _)))))) rfl ?_
  refine sl_mf rfl rfl (.cons rfl (.cons rfl .nil)) ?_
  refine sl_callf rfl rfl cal_60 (try_ok 84 cal_84 q b1 b3 (.val (.list (l.map byteV))) zeroS (GoodS (decSumm l)) (BadR (decSumm l)) (.blk b2 zeroS :: σ) (fun τ => cSumm_ok q b1 b3 l τ hl)) ?_ ?_ ?_ (fun _ _ h => h.elim)
  · repeat (first | exact Weaks.nil | refine Weaks.cons (Weak.junk _) ?_ | refine Weaks.cons (Weak.refl _) ?_ | refine Weaks.cons (Weak.toV rfl) ?_ | refine Weaks.cons (Weak.ref _) ?_ | refine Weaks.cons (Weak.rp_agg _) ?_)
  · repeat (first | exact Sub.refl _ | exact Sub.none _ | refine Sub.p0 ?_ | refine Sub.p1 ?_ | refine Sub.p2 ?_ | refine Sub.p3 ?_ | refine Sub.p4 ?_ | refine Sub.p5 ?_ | refine Sub.p6 ?_ | refine Sub.drop ?_)
  rintro _ _ ⟨x', xs', ok, rfl, hgood, hbad, rfl⟩
  refine sl_nil ?_
  refine sw_cond rfl (fun hok => ?_) (fun hok => ?_)
  · obtain rfl : ok = true := hok
    obtain ⟨v, r, hd, rfl, rfl⟩ := hgood rfl
    refine sl_region ?_
    first
      | refine sl_load_rpn rfl rfl rfl ag_72 sz_72 (Nat.le_of_ble_eq_true rfl) ?_
      | refine sl_load_blkn rfl rfl rfl ag_72 sz_72 (by first | exact List.Mem.head _ | exact List.Mem.tail _ (List.Mem.head _) | exact List.Mem.tail _ (List.Mem.tail _ (List.Mem.head _)) | exact List.Mem.tail _ (List.Mem.tail _ (List.Mem.tail _ (List.Mem.head _))) | exact List.Mem.tail _ (List.Mem.tail _ (List.Mem.tail _ (List.Mem.tail _ (List.Mem.head _)))) | exact List.Mem.tail _ (List.Mem.tail _ (List.Mem.tail _ (List.Mem.tail _ (List.Mem.tail _ (List.Mem.head _)))))) (Nat.le_of_ble_eq_true rfl) ?_
      | refine sl_load_ref rfl rfl rfl ag_72 sz_72 (Nat.le_of_ble_eq_true rfl) ?_
    first
      | refine sl_st rfl rfl rfl rfl sz_72 rfl rfl rfl (Nat.le_of_ble_eq_true rfl) ?_
      | (refine sl_f1 ?_; refine sl_st rfl rfl rfl rfl sz_72 rfl rfl rfl (Nat.le_of_ble_eq_true rfl) ?_)
      | (refine sl_f2 ?_; refine sl_st rfl rfl rfl rfl sz_72 rfl rfl rfl (Nat.le_of_ble_eq_true rfl) ?_)
      | (refine sl_f3 ?_; refine sl_st rfl rfl rfl rfl sz_72 rfl rfl rfl (Nat.le_of_ble_eq_true rfl) ?_)
      | (refine sl_f4 ?_; refine sl_st rfl rfl rfl rfl sz_72 rfl rfl rfl (Nat.le_of_ble_eq_true rfl) ?_)
      | (refine sl_f5 ?_; refine sl_st rfl rfl rfl rfl sz_72 rfl rfl rfl (Nat.le_of_ble_eq_true rfl) ?_)
      | (refine sl_f6 ?_; refine sl_st rfl rfl rfl rfl sz_72 rfl rfl rfl (Nat.le_of_ble_eq_true rfl) ?_)
    refine sl_nil ?_
    refine sw_seq ?_
    refine sl_region ?_
    first
      | refine sl_load_rpn rfl rfl rfl ag_72 sz_72 (Nat.le_of_ble_eq_true rfl) ?_
      | refine sl_load_blkn rfl rfl rfl ag_72 sz_72 (by first | exact List.Mem.head _ | exact List.Mem.tail _ (List.Mem.head _) | exact List.Mem.tail _ (List.Mem.tail _ (List.Mem.head _)) | exact List.Mem.tail _ (List.Mem.tail _ (List.Mem.tail _ (List.Mem.head _))) | exact List.Mem.tail _ (List.Mem.tail _ (List.Mem.tail _ (List.Mem.tail _ (List.Mem.head _)))) | exact List.Mem.tail _ (List.Mem.tail _ (List.Mem.tail _ (List.Mem.tail _ (List.Mem.tail _ (List.Mem.head _)))))) (Nat.le_of_ble_eq_true rfl) ?_
      | refine sl_load_ref rfl rfl rfl ag_72 sz_72 (Nat.le_of_ble_eq_true rfl) ?_
    first
      | refine sl_st rfl rfl rfl rfl sz_72 rfl rfl rfl (Nat.le_of_ble_eq_true rfl) ?_
      | (refine sl_f1 ?_; refine sl_st rfl rfl rfl rfl sz_72 rfl rfl rfl (Nat.le_of_ble_eq_true rfl) ?_)
      | (refine sl_f2 ?_; refine sl_st rfl rfl rfl rfl sz_72 rfl rfl rfl (Nat.le_of_ble_eq_true rfl) ?_)
      | (refine sl_f3 ?_; refine sl_st rfl rfl rfl rfl sz_72 rfl rfl rfl (Nat.le_of_ble_eq_true rfl) ?_)
      | (refine sl_f4 ?_; refine sl_st rfl rfl rfl rfl sz_72 rfl rfl rfl (Nat.le_of_ble_eq_true rfl) ?_)
      | (refine sl_f5 ?_; refine sl_st rfl rfl rfl rfl sz_72 rfl rfl rfl (Nat.le_of_ble_eq_true rfl) ?_)
      | (refine sl_f6 ?_; refine sl_st rfl rfl rfl rfl sz_72 rfl rfl rfl (Nat.le_of_ble_eq_true rfl) ?_)
    refine sl_nil ?_
    refine sw_ret ⟨rfl, _, _, ResD.weak (res_celln rfl rfl ag_72 sz_72 (by first | exact List.Mem.head _ | exact List.Mem.tail _ (List.Mem.head _) | exact List.Mem.tail _ (List.Mem.tail _ (List.Mem.head _)) | exact List.Mem.tail _ (List.Mem.tail _ (List.Mem.tail _ (List.Mem.head _))) | exact List.Mem.tail _ (List.Mem.tail _ (List.Mem.tail _ (List.Mem.tail _ (List.Mem.head _)))) | exact List.Mem.tail _ (List.Mem.tail _ (List.Mem.tail _ (List.Mem.tail _ (List.Mem.tail _ (List.Mem.head _)))))) (Nat.le_of_ble_eq_true rfl)) ((Weak.toV rfl) ), ?_, by rw [rdOf_good hd]; exact ⟨rfl, _, ⟨rfl, Nat.le_trans (decSumm_len hd) hl⟩, rfl⟩⟩
    repeat (first | exact Sub.refl _ | exact Sub.none _ | refine Sub.p0 ?_ | refine Sub.p1 ?_ | refine Sub.p2 ?_ | refine Sub.p3 ?_ | refine Sub.p4 ?_ | refine Sub.p5 ?_ | refine Sub.p6 ?_ | refine Sub.drop ?_)
  · obtain rfl : ok = false := hok
    obtain ⟨hd, r, rfl⟩ := hbad rfl
    refine sw_skip ?_
    refine sw_seq ?_
    refine sl_region ?_
    first
      | refine sl_load_rpn rfl rfl rfl ag_72 sz_72 (Nat.le_of_ble_eq_true rfl) ?_
      | refine sl_load_blkn rfl rfl rfl ag_72 sz_72 (by first | exact List.Mem.head _ | exact List.Mem.tail _ (List.Mem.head _) | exact List.Mem.tail _ (List.Mem.tail _ (List.Mem.head _)) | exact List.Mem.tail _ (List.Mem.tail _ (List.Mem.tail _ (List.Mem.head _))) | exact List.Mem.tail _ (List.Mem.tail _ (List.Mem.tail _ (List.Mem.tail _ (List.Mem.head _)))) | exact List.Mem.tail _ (List.Mem.tail _ (List.Mem.tail _ (List.Mem.tail _ (List.Mem.tail _ (List.Mem.head _)))))) (Nat.le_of_ble_eq_true rfl) ?_
      | refine sl_load_ref rfl rfl rfl ag_72 sz_72 (Nat.le_of_ble_eq_true rfl) ?_
    first
      | refine sl_st rfl rfl rfl rfl sz_72 rfl rfl rfl (Nat.le_of_ble_eq_true rfl) ?_
      | (refine sl_f1 ?_; refine sl_st rfl rfl rfl rfl sz_72 rfl rfl rfl (Nat.le_of_ble_eq_true rfl) ?_)
      | (refine sl_f2 ?_; refine sl_st rfl rfl rfl rfl sz_72 rfl rfl rfl (Nat.le_of_ble_eq_true rfl) ?_)
      | (refine sl_f3 ?_; refine sl_st rfl rfl rfl rfl sz_72 rfl rfl rfl (Nat.le_of_ble_eq_true rfl) ?_)
      | (refine sl_f4 ?_; refine sl_st rfl rfl rfl rfl sz_72 rfl rfl rfl (Nat.le_of_ble_eq_true rfl) ?_)
      | (refine sl_f5 ?_; refine sl_st rfl rfl rfl rfl sz_72 rfl rfl rfl (Nat.le_of_ble_eq_true rfl) ?_)
      | (refine sl_f6 ?_; refine sl_st rfl rfl rfl rfl sz_72 rfl rfl rfl (Nat.le_of_ble_eq_true rfl) ?_)
    refine sl_nil ?_
    refine sw_ret ⟨rfl, _, _, ResD.weak (res_celln rfl rfl ag_72 sz_72 (by first | exact List.Mem.head _ | exact List.Mem.tail _ (List.Mem.head _) | exact List.Mem.tail _ (List.Mem.tail _ (List.Mem.head _)) | exact List.Mem.tail _ (List.Mem.tail _ (List.Mem.tail _ (List.Mem.head _))) | exact List.Mem.tail _ (List.Mem.tail _ (List.Mem.tail _ (List.Mem.tail _ (List.Mem.head _)))) | exact List.Mem.tail _ (List.Mem.tail _ (List.Mem.tail _ (List.Mem.tail _ (List.Mem.tail _ (List.Mem.head _)))))) (Nat.le_of_ble_eq_true rfl)) ((Weak.toV rfl) ), ?_, by rw [rdOf_bad hd]; exact ⟨rfl, _, ⟨r, rfl⟩, rfl⟩⟩
    repeat (first | exact Sub.refl _ | exact Sub.none _ | refine Sub.p0 ?_ | refine Sub.p1 ?_ | refine Sub.p2 ?_ | refine Sub.p3 ?_ | refine Sub.p4 ?_ | refine Sub.p5 ?_ | refine Sub.p6 ?_ | refine Sub.drop ?_)

theorem pSumm_bad (q : Nat) (l : List UInt8) (σ : List Chunk) :
    FSpec Try.prog 45 [.ptr q 0] (rd q l true :: σ) (fun d σ' => d = .val (smyV noSumm) ∧ σ' = rd q l true :: σ) := by
  refine spec_of_sw Try.func45 rfl ?_
  refine sw_seq ?_
  refine sl_region ?_
  refine sl_bx rfl rfl rfl rfl (fun b1 => ?_)
  refine sl_alloc rfl rfl zd_72 (fun b2 => ?_)
  refine sl_nil ?_
  refine sw_seq ?_
  refine sl_region ?_
  refine sl_alloc rfl rfl zd_72 (fun b3 => ?_)
  refine sl_nil ?_
  refine sw_seq ?_
  refine sw_seq ?_
  refine sl_region ?_
  first
    | refine sl_load_rp1 rfl rfl rfl ag_31 rfl ?_
    | refine sl_load_blk1 rfl rfl rfl ag_31 (by first | exact List.Mem.head _ | exact List.Mem.tail _ (List.Mem.head _) | exact List.Mem.tail _ (List.Mem.tail _ (List.Mem.head _)) | exact List.Mem.tail _ (List.Mem.tail _ (List.Mem.tail _ (List.Mem.head _))) | exact List.Mem.tail _ (List.Mem.tail _ (List.Mem.tail _ (List.Mem.tail _ (List.Mem.head _)))) | exact List.Mem.tail _ (List.Mem.tail _ (List.Mem.tail _ (List.Mem.tail _ (List.Mem.tail _ (List.Mem.head _)))))) rfl ?_
  refine sl_mf rfl rfl (.cons rfl (.cons rfl .nil)) ?_
  refine sl_callf rfl rfl cal_60 (try_bad (.func 84 [.ptr b1 0, .ptr b3 0]) q (.val (.list (l.map byteV))) (.blk b1 [.ptr q 0] :: .blk b3 zeroS :: .blk b2 zeroS :: σ)) ?_ ?_ ?_ (fun _ _ h => h.elim)
  · repeat (first | exact Weaks.nil | refine Weaks.cons (Weak.junk _) ?_ | refine Weaks.cons (Weak.refl _) ?_ | refine Weaks.cons (Weak.toV rfl) ?_ | refine Weaks.cons (Weak.ref _) ?_ | refine Weaks.cons (Weak.rp_agg _) ?_)
  · repeat (first | exact Sub.refl _ | exact Sub.none _ | refine Sub.p0 ?_ | refine Sub.p1 ?_ | refine Sub.p2 ?_ | refine Sub.p3 ?_ | refine Sub.p4 ?_ | refine Sub.p5 ?_ | refine Sub.p6 ?_ | refine Sub.drop ?_)
  rintro _ _ ⟨rfl, rfl⟩
  refine sl_nil ?_
  refine sw_false rfl (rfl) ?_
  refine sw_skip ?_
  refine sw_seq ?_
  refine sl_region ?_
  first
    | refine sl_load_rpn rfl rfl rfl ag_72 sz_72 (Nat.le_of_ble_eq_true rfl) ?_
    | refine sl_load_blkn rfl rfl rfl ag_72 sz_72 (by first | exact List.Mem.head _ | exact List.Mem.tail _ (List.Mem.head _) | exact List.Mem.tail _ (List.Mem.tail _ (List.Mem.head _)) | exact List.Mem.tail _ (List.Mem.tail _ (List.Mem.tail _ (List.Mem.head _))) | exact List.Mem.tail _ (List.Mem.tail _ (List.Mem.tail _ (List.Mem.tail _ (List.Mem.head _)))) | exact List.Mem.tail _ (List.Mem.tail _ (List.Mem.tail _ (List.Mem.tail _ (List.Mem.tail _ (List.Mem.head _)))))) (Nat.le_of_ble_eq_true rfl) ?_
    | refine sl_load_ref rfl rfl rfl ag_72 sz_72 (Nat.le_of_ble_eq_true rfl) ?_
  first
    | refine sl_st rfl rfl rfl rfl sz_72 rfl rfl rfl (Nat.le_of_ble_eq_true rfl) ?_
    | (refine sl_f1 ?_; refine sl_st rfl rfl rfl rfl sz_72 rfl rfl rfl (Nat.le_of_ble_eq_true rfl) ?_)
    | (refine sl_f2 ?_; refine sl_st rfl rfl rfl rfl sz_72 rfl rfl rfl (Nat.le_of_ble_eq_true rfl) ?_)
    | (refine sl_f3 ?_; refine sl_st rfl rfl rfl rfl sz_72 rfl rfl rfl (Nat.le_of_ble_eq_true rfl) ?_)
    | (refine sl_f4 ?_; refine sl_st rfl rfl rfl rfl sz_72 rfl rfl rfl (Nat.le_of_ble_eq_true rfl) ?_)
    | (refine sl_f5 ?_; refine sl_st rfl rfl rfl rfl sz_72 rfl rfl rfl (Nat.le_of_ble_eq_true rfl) ?_)
    | (refine sl_f6 ?_; refine sl_st rfl rfl rfl rfl sz_72 rfl rfl rfl (Nat.le_of_ble_eq_true rfl) ?_)
  refine sl_nil ?_
  refine sw_ret ⟨rfl, _, _, ResD.weak (res_celln rfl rfl ag_72 sz_72 (by first | exact List.Mem.head _ | exact List.Mem.tail _ (List.Mem.head _) | exact List.Mem.tail _ (List.Mem.tail _ (List.Mem.head _)) | exact List.Mem.tail _ (List.Mem.tail _ (List.Mem.tail _ (List.Mem.head _))) | exact List.Mem.tail _ (List.Mem.tail _ (List.Mem.tail _ (List.Mem.tail _ (List.Mem.head _)))) | exact List.Mem.tail _ (List.Mem.tail _ (List.Mem.tail _ (List.Mem.tail _ (List.Mem.tail _ (List.Mem.head _)))))) (Nat.le_of_ble_eq_true rfl)) ((Weak.toV rfl) ), ?_, ⟨rfl, rfl⟩⟩
  repeat (first | exact Sub.refl _ | exact Sub.none _ | refine Sub.p0 ?_ | refine Sub.p1 ?_ | refine Sub.p2 ?_ | refine Sub.p3 ?_ | refine Sub.p4 ?_ | refine Sub.p5 ?_ | refine Sub.p6 ?_ | refine Sub.drop ?_)

theorem pSumm_ok (q : Nat) (st : Option (List UInt8)) (c : Chunk) (σ : List Chunk) (h : Rdr q st c) :
    FSpec Try.prog 45 [.ptr q 0] (c :: σ) (fun d σ' => d = .val (smyV (rdOf decSumm noSumm st).1) ∧ ∃ c', Rdr q (rdOf decSumm noSumm st).2 c' ∧ σ' = c' :: σ) := by
  cases st with
  | some l => obtain ⟨rfl, hl⟩ := h; exact pSumm_good q l σ hl
  | none => obtain ⟨r, rfl⟩ := h; exact (pSumm_bad q r σ).mono fun d σ' h => ⟨h.1, _, ⟨r, rfl⟩, h.2⟩

theorem whole_ok (q : Nat) (st : Option (List UInt8)) (c : Chunk) (σ : List Chunk) (h : Rdr q st c) :
    FSpec Try.prog 41 [.ptr q 0] (c :: σ) (fun d σ' => d = .val (i64V (rdOf decI 0 st).1) ∧ ∃ c', Rdr q (rdOf decI 0 st).2 c' ∧ σ' = c' :: σ) := by
  refine spec_of_sw Try.func41 rfl ?_
  refine sw_seq ?_
  refine sl_region ?_
  refine sl_as rfl rfl rfl ?_
  refine sl_nil ?_
  refine sw_seq ?_
  refine sl_region ?_
  refine sl_mv rfl rfl rfl ?_
  refine sl_callf rfl rfl cal_82 (yint_ok q st c σ h) ?_ ?_ ?_ (fun _ _ h => h.elim)
  · repeat (first | exact Weaks.nil | refine Weaks.cons (Weak.junk _) ?_ | refine Weaks.cons (Weak.refl _) ?_ | refine Weaks.cons (Weak.toV rfl) ?_ | refine Weaks.cons (Weak.ref _) ?_ | refine Weaks.cons (Weak.rp_agg _) ?_)
  · repeat (first | exact Sub.refl _ | exact Sub.none _ | refine Sub.p0 ?_ | refine Sub.p1 ?_ | refine Sub.p2 ?_ | refine Sub.p3 ?_ | refine Sub.p4 ?_ | refine Sub.p5 ?_ | refine Sub.p6 ?_ | refine Sub.drop ?_)
  rintro _ _ ⟨rfl, c2, h2, rfl⟩
  obtain ⟨st2, hst2⟩ : ∃ b, b = (rdOf decI 0 st).2 := ⟨_, rfl⟩
  rw [← hst2] at h2
  rcases st2 with _ | r
  · obtain ⟨r, rfl⟩ := h2
    refine sl_as rfl rfl rfl ?_
    refine sl_nil ?_
    refine sw_seq ?_
    refine sw_seq ?_
    refine sl_region ?_
    refine sl_mv rfl rfl rfl ?_
    refine sl_nc rfl rfl rfl rfl ?_
    first
      | refine sl_fieldAddr_ptr rfl rfl rfl fo_80_1 ?_
      | refine sl_fieldAddr_rp rfl rfl rfl fo_80_1 ?_
      | refine sl_fieldAddr_ref rfl rfl rfl fo_80_1 ?_
    first
      | refine sl_load_rp1 rfl rfl rfl ag_4 rfl ?_
      | refine sl_load_blk1 rfl rfl rfl ag_4 (by first | exact List.Mem.head _ | exact List.Mem.tail _ (List.Mem.head _) | exact List.Mem.tail _ (List.Mem.tail _ (List.Mem.head _)) | exact List.Mem.tail _ (List.Mem.tail _ (List.Mem.tail _ (List.Mem.head _))) | exact List.Mem.tail _ (List.Mem.tail _ (List.Mem.tail _ (List.Mem.tail _ (List.Mem.head _)))) | exact List.Mem.tail _ (List.Mem.tail _ (List.Mem.tail _ (List.Mem.tail _ (List.Mem.tail _ (List.Mem.head _)))))) rfl ?_
    refine sl_nil ?_
    refine sw_true rfl (rfl) ?_
    refine sw_seq ?_
    refine sl_region ?_
    refine sl_as rfl rfl rfl ?_
    refine sl_nil ?_
    refine sw_ret ⟨rfl, _, _, res_one rfl rfl, ?_, ⟨by rw [rdOf_none_z hst2.symm]; rfl, _, by rw [← hst2]; exact ⟨r, rfl⟩, rfl⟩⟩
    repeat (first | exact Sub.refl _ | exact Sub.none _ | refine Sub.p0 ?_ | refine Sub.p1 ?_ | refine Sub.p2 ?_ | refine Sub.p3 ?_ | refine Sub.p4 ?_ | refine Sub.p5 ?_ | refine Sub.p6 ?_ | refine Sub.drop ?_)
  · obtain ⟨rfl, hr⟩ := h2
    refine sl_as rfl rfl rfl ?_
    refine sl_nil ?_
    refine sw_seq ?_
    refine sw_seq ?_
    refine sl_region ?_
    refine sl_mv rfl rfl rfl ?_
    refine sl_nc rfl rfl rfl rfl ?_
    first
      | refine sl_fieldAddr_ptr rfl rfl rfl fo_80_1 ?_
      | refine sl_fieldAddr_rp rfl rfl rfl fo_80_1 ?_
      | refine sl_fieldAddr_ref rfl rfl rfl fo_80_1 ?_
    first
      | refine sl_load_rp1 rfl rfl rfl ag_4 rfl ?_
      | refine sl_load_blk1 rfl rfl rfl ag_4 (by first | exact List.Mem.head _ | exact List.Mem.tail _ (List.Mem.head _) | exact List.Mem.tail _ (List.Mem.tail _ (List.Mem.head _)) | exact List.Mem.tail _ (List.Mem.tail _ (List.Mem.tail _ (List.Mem.head _))) | exact List.Mem.tail _ (List.Mem.tail _ (List.Mem.tail _ (List.Mem.tail _ (List.Mem.head _)))) | exact List.Mem.tail _ (List.Mem.tail _ (List.Mem.tail _ (List.Mem.tail _ (List.Mem.tail _ (List.Mem.head _)))))) rfl ?_
    refine sl_nil ?_
    refine sw_false rfl (rfl) ?_
    refine sw_skip ?_
    refine sw_seq ?_
    refine sl_region ?_
    refine sl_mv rfl rfl rfl ?_
    refine sl_as rfl rfl rfl ?_
    refine sl_nil ?_
    refine sw_ret ⟨rfl, _, _, res_one rfl rfl, ?_, ⟨rfl, _, by rw [← hst2]; exact ⟨rfl, hr⟩, rfl⟩⟩
    repeat (first | exact Sub.refl _ | exact Sub.none _ | refine Sub.p0 ?_ | refine Sub.p1 ?_ | refine Sub.p2 ?_ | refine Sub.p3 ?_ | refine Sub.p4 ?_ | refine Sub.p5 ?_ | refine Sub.p6 ?_ | refine Sub.drop ?_)

end Go.Proofs.Ytioechdfghglhaa
