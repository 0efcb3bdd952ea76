/- Walks: printed by a program of this session out of its script CodeA. -/
import Derived.Test.YtioechdfghglhaaSlT
import Derived.Test.YtioechdfghglhaaP1
namespace Go.Proofs.Ytioechdfghglhaa
set_option linter.unusedVariables false
set_option linter.unusedSimpArgs false
set_option maxRecDepth 4000
set_option maxHeartbeats 4000000
open Go Go.RowKit SL


/-- slices.Clone over bytes. -/
theorem clone_ok (l : List UInt8) (σ : List Chunk) (hl : l.length ≤ 100000000) :
    FSpec Try.prog 59 [.val (.list (l.map byteV))] σ (fun d σ' => d = .val (.list (l.map byteV)) ∧ σ' = σ) := by
  refine spec_of_sw Try.func59 rfl ?_
  refine sw_seq ?_
  refine sl_region ?_
  refine sl_as rfl rfl rfl ?_
  refine sl_nil ?_
  refine sw_seq ?_
  refine sw_seq ?_
  refine sl_region ?_
  refine sl_mv rfl rfl rfl ?_
  refine sl_list_nil rfl rfl rfl u_26 (fun n4 hn4 => ?_)
  refine sl_nil ?_
  refine sw_cond rfl (fun hn => ?_) (fun hn => ?_)
  · obtain rfl : l = [] := by have := hn4 hn; simpa using this
    refine sw_seq ?_
    refine sl_region ?_
    refine sl_as rfl rfl rfl ?_
    refine sl_nil ?_
    refine sw_ret ⟨rfl, _, _, ResD.weak (res_one rfl rfl) ((Weak.toV rfl) ), ?_, ⟨rfl, rfl⟩⟩
    repeat (first | exact Sub.refl _ | exact Sub.none _ | refine Sub.p0 ?_ | refine Sub.p1 ?_ | refine Sub.p2 ?_ | refine Sub.p3 ?_ | refine Sub.p4 ?_ | refine Sub.p5 ?_ | refine Sub.p6 ?_ | refine Sub.drop ?_)
  · refine sw_skip ?_
    refine sw_seq ?_
    refine sl_region ?_
    refine sl_bs1 rfl rfl .nil u_26 sz_5 zs_5 (by decide) rfl rfl rfl rfl ?_
    refine sl_mv rfl rfl rfl ?_
    refine sl_own (t := 5) (sz := 1) rfl (fun v => ?_)
    first
      | refine sl_app rfl rfl rfl rfl u_26 ⟨_, u_26, rfl⟩ el_5 (by repeat (first | exact sized_nil | exact sized_map (fun _ => ⟨rfl, rfl⟩) | refine sized_cons rfl rfl ?_ | refine sized_append ?_ ?_ | assumption)) (by repeat (first | exact sized_nil | exact sized_map (fun _ => ⟨rfl, rfl⟩) | refine sized_cons rfl rfl ?_ | refine sized_append ?_ ?_ | assumption)) (by simp; omega) (rfl) (fun v7 => ?_)
      | (refine sl_f1 ?_; refine sl_app rfl rfl rfl rfl u_26 ⟨_, u_26, rfl⟩ el_5 (by repeat (first | exact sized_nil | exact sized_map (fun _ => ⟨rfl, rfl⟩) | refine sized_cons rfl rfl ?_ | refine sized_append ?_ ?_ | assumption)) (by repeat (first | exact sized_nil | exact sized_map (fun _ => ⟨rfl, rfl⟩) | refine sized_cons rfl rfl ?_ | refine sized_append ?_ ?_ | assumption)) (by simp; omega) (rfl) (fun v7 => ?_))
      | (refine sl_f2 ?_; refine sl_app rfl rfl rfl rfl u_26 ⟨_, u_26, rfl⟩ el_5 (by repeat (first | exact sized_nil | exact sized_map (fun _ => ⟨rfl, rfl⟩) | refine sized_cons rfl rfl ?_ | refine sized_append ?_ ?_ | assumption)) (by repeat (first | exact sized_nil | exact sized_map (fun _ => ⟨rfl, rfl⟩) | refine sized_cons rfl rfl ?_ | refine sized_append ?_ ?_ | assumption)) (by simp; omega) (rfl) (fun v7 => ?_))
      | (refine sl_f3 ?_; refine sl_app rfl rfl rfl rfl u_26 ⟨_, u_26, rfl⟩ el_5 (by repeat (first | exact sized_nil | exact sized_map (fun _ => ⟨rfl, rfl⟩) | refine sized_cons rfl rfl ?_ | refine sized_append ?_ ?_ | assumption)) (by repeat (first | exact sized_nil | exact sized_map (fun _ => ⟨rfl, rfl⟩) | refine sized_cons rfl rfl ?_ | refine sized_append ?_ ?_ | assumption)) (by simp; omega) (rfl) (fun v7 => ?_))
      | (refine sl_f4 ?_; refine sl_app rfl rfl rfl rfl u_26 ⟨_, u_26, rfl⟩ el_5 (by repeat (first | exact sized_nil | exact sized_map (fun _ => ⟨rfl, rfl⟩) | refine sized_cons rfl rfl ?_ | refine sized_append ?_ ?_ | assumption)) (by repeat (first | exact sized_nil | exact sized_map (fun _ => ⟨rfl, rfl⟩) | refine sized_cons rfl rfl ?_ | refine sized_append ?_ ?_ | assumption)) (by simp; omega) (rfl) (fun v7 => ?_))
      | (refine sl_f5 ?_; refine sl_app rfl rfl rfl rfl u_26 ⟨_, u_26, rfl⟩ el_5 (by repeat (first | exact sized_nil | exact sized_map (fun _ => ⟨rfl, rfl⟩) | refine sized_cons rfl rfl ?_ | refine sized_append ?_ ?_ | assumption)) (by repeat (first | exact sized_nil | exact sized_map (fun _ => ⟨rfl, rfl⟩) | refine sized_cons rfl rfl ?_ | refine sized_append ?_ ?_ | assumption)) (by simp; omega) (rfl) (fun v7 => ?_))
      | (refine sl_f6 ?_; refine sl_app rfl rfl rfl rfl u_26 ⟨_, u_26, rfl⟩ el_5 (by repeat (first | exact sized_nil | exact sized_map (fun _ => ⟨rfl, rfl⟩) | refine sized_cons rfl rfl ?_ | refine sized_append ?_ ?_ | assumption)) (by repeat (first | exact sized_nil | exact sized_map (fun _ => ⟨rfl, rfl⟩) | refine sized_cons rfl rfl ?_ | refine sized_append ?_ ?_ | assumption)) (by simp; omega) (rfl) (fun v7 => ?_))
    refine sl_as rfl rfl rfl ?_
    refine sl_nil ?_
    refine sw_ret ⟨rfl, _, _, ResD.weak (res_one rfl rfl) ((Weak.toV rfl) ), ?_, ⟨rfl, rfl⟩⟩
    repeat (first | exact Sub.refl _ | exact Sub.none _ | refine Sub.p0 ?_ | refine Sub.p1 ?_ | refine Sub.p2 ?_ | refine Sub.p3 ?_ | refine Sub.p4 ?_ | refine Sub.p5 ?_ | refine Sub.p6 ?_ | refine Sub.drop ?_)

/-- NewWriter: a new, empty writer. -/
theorem newWriter_ok (σ : List Chunk) : FSpec Try.prog 16 [] σ (fun d σ' => ∃ p v, d = .ptr p 0 ∧ σ' = .blk p [.own v (([] : List UInt8).map byteV)] :: .spare v 1 :: σ) := by
  refine spec_of_sw Try.func16 rfl ?_
  refine sw_seq ?_
  refine sl_region ?_
  refine sl_as rfl rfl rfl ?_
  refine sl_nil ?_
  refine sw_seq ?_
  refine sl_region ?_
  refine sl_bd rfl rfl .nil bi_30 zd_30 rfl ?_
  refine sl_bx rfl rfl rfl rfl (fun b2 => ?_)
  refine sl_own_blk (i := 0) (sz := 1) rfl (fun v => ?_)
  refine sl_as rfl rfl rfl ?_
  refine sl_nil ?_
  refine sw_ret ⟨rfl, _, _, res_one rfl rfl, ?_, ⟨b2, v, rfl, rfl⟩⟩
  repeat (first | exact Sub.refl _ | exact Sub.none _ | refine Sub.p0 ?_ | refine Sub.p1 ?_ | refine Sub.p2 ?_ | refine Sub.p3 ?_ | refine Sub.p4 ?_ | refine Sub.p5 ?_ | refine Sub.p6 ?_ | refine Sub.drop ?_)

/-- Num writes numbers. -/
theorem num_ok (p : Nat) (v : Value) (l : List UInt8) (ns : List Nat) (σ : List Chunk) (hns : ∀ n ∈ ns, n < 18446744073709551616) (hl : l.length + 10 * ns.length ≤ 100000000) :
    FSpec Try.prog 28 [.ptr p 0, .val (.list (ns.map u64V))] (.blk p [.own v (l.map byteV)] :: .spare v 1 :: σ)
      (fun d σ' => d = .tup [] ∧ ∃ v', σ' = .blk p [.own v' ((l ++ ns.flatMap encNum).map byteV)] :: .spare v' 1 :: σ) := by
  refine spec_of_sw Try.func28 rfl ?_
  refine sw_seq ?_
  refine sl_region ?_
  refine sl_mv rfl rfl rfl ?_
  first
    | refine sl_len rfl rfl rfl ⟨_, u_51⟩ ?_
    | refine sl_len_sl rfl rfl rfl ⟨_, u_51⟩ ?_
  refine sl_mv rfl rfl rfl ?_
  refine sl_nil ?_
  refine sw_block ?_
  refine sw_set 7 (.val (.int .i64 (ns.length : Int))) (len_eq (List.length_map ..)) ?_
  refine sw_loopw (fun nX sX δX σX => ∃ (k : Nat) (v : Value) (m : List UInt8), (ns.length - k) = nX ∧ sX = ⟨40, (.cons 0 (.ptr p 0) (.cons 6 (.val (.list (ns.map u64V))) (.cons 7 (.val (.int .i64 (ns.length : Int))) (.cons 8 (.val (.int .i64 (k : Int))) .nil))))⟩ ∧ δX = [] ∧ σX = .blk p [.own v (m.map byteV)] :: .spare v 1 :: σ ∧ k ≤ ns.length ∧ m = l ++ (ns.take k).flatMap encNum) ?_ ?_
  · refine ⟨_, _, _, ?_, ?_, 0, v, l, rfl, rfl, rfl, rfl, Nat.zero_le _, by simp⟩
    · refine ⟨rfl, ?_⟩; repeat (first | exact WkL.nil | refine WkL.cons (Weak.refl _) ?_ | refine WkL.cons (Weak.toV rfl) ?_ | refine WkL.cons (Weak.ref _) ?_ | refine WkL.cons (Weak.rp_agg _) ?_)
    · repeat (first | exact Sub.refl _ | exact Sub.none _ | refine Sub.p0 ?_ | refine Sub.p1 ?_ | refine Sub.p2 ?_ | refine Sub.p3 ?_ | refine Sub.p4 ?_ | refine Sub.p5 ?_ | refine Sub.p6 ?_ | refine Sub.drop ?_)
  · rintro nX sX δX σX ⟨k, v, m, rfl, rfl, rfl, rfl, hk0, hm0⟩
    refine sw_seq ?_
    refine sl_region ?_
    refine sl_bin rfl rfl rfl rfl rfl ?_
    refine sl_nil ?_
    refine sw_seq ?_
    refine sw_cond rfl (fun hk => ?_) (fun hk => ?_)
    · have hk : k < ns.length := by simpa using hk
      refine sw_skip ?_
      refine sw_seq ?_
      refine sw_block ?_
      refine sw_seq ?_
      refine sl_region ?_
      refine sl_indexAddr' rfl rfl rfl rfl u_51 sz_37 (by omega) (idx_map hk) rfl ?_
      first
        | refine sl_load_rp1 rfl rfl rfl ag_37 rfl ?_
        | refine sl_load_blk1 rfl rfl rfl ag_37 (by first | exact List.Mem.head _ | exact List.Mem.tail _ (List.Mem.head _) | exact List.Mem.tail _ (List.Mem.tail _ (List.Mem.head _)) | exact List.Mem.tail _ (List.Mem.tail _ (List.Mem.tail _ (List.Mem.head _))) | exact List.Mem.tail _ (List.Mem.tail _ (List.Mem.tail _ (List.Mem.tail _ (List.Mem.head _)))) | exact List.Mem.tail _ (List.Mem.tail _ (List.Mem.tail _ (List.Mem.tail _ (List.Mem.tail _ (List.Mem.head _)))))) rfl ?_
      refine sl_as rfl rfl rfl ?_
      refine sl_nil ?_
      refine sw_seq ?_
      refine sw_block ?_
      have hxk := hns ns[k] (List.getElem_mem hk)
      have hft := flat_take_len ns hns k
      refine sw_loopw (fun nX sX δX σX => ∃ (x : Nat) (v : Value) (m : List UInt8), (x) = nX ∧ sX = ⟨40, (.cons 0 (.ptr p 0) (.cons 6 (.val (.list (ns.map u64V))) (.cons 7 (.val (.int .i64 (ns.length : Int))) (.cons 8 (.val (.int .i64 (k : Int))) (.cons 5 (.val (.int .u64 (x : Int))) .nil)))))⟩ ∧ δX = [] ∧ σX = .blk p [.own v (m.map byteV)] :: .spare v 1 :: σ ∧ x < 18446744073709551616 ∧ m ++ encNum x = l ++ (ns.take k).flatMap encNum ++ encNum ns[k]) ?_ ?_
      · refine ⟨_, _, _, ?_, ?_, ns[k], v, m, rfl, rfl, rfl, rfl, hxk, by rw [hm0]⟩
        · refine ⟨rfl, ?_⟩; repeat (first | exact WkL.nil | refine WkL.cons (Weak.refl _) ?_ | refine WkL.cons (Weak.toV rfl) ?_ | refine WkL.cons (Weak.ref _) ?_ | refine WkL.cons (Weak.rp_agg _) ?_)
        · repeat (first | exact Sub.refl _ | exact Sub.none _ | refine Sub.p0 ?_ | refine Sub.p1 ?_ | refine Sub.p2 ?_ | refine Sub.p3 ?_ | refine Sub.p4 ?_ | refine Sub.p5 ?_ | refine Sub.p6 ?_ | refine Sub.drop ?_)
      · rintro nX sX δX σX ⟨x, v, m, rfl, rfl, rfl, rfl, hx0, hm⟩
        have hml : m.length ≤ 99999999 := by
          have h1 := congrArg List.length hm
          have h2 := encNum_len hxk
          have h3 := encNum_pos x
          simp only [List.length_append] at h1
          omega
        refine sw_seq ?_
        refine sw_seq ?_
        refine sl_region ?_
        refine sl_mv rfl rfl rfl ?_
        refine sl_bin rfl rfl rfl rfl rfl ?_
        refine sl_nil ?_
        refine sw_cond rfl (fun hx => ?_) (fun hx => ?_)
        · have hx : 128 ≤ x := by have := of_decide_eq_true hx; omega
          refine sw_skip ?_
          refine sw_seq ?_
          refine sw_block ?_
          refine sl_region ?_
          refine sl_mv rfl rfl rfl ?_
          refine sl_mv rfl rfl rfl ?_
          refine sl_nc rfl rfl rfl rfl ?_
          first
            | refine sl_fieldAddr_ptr rfl rfl rfl fo_28_0 ?_
            | refine sl_fieldAddr_rp rfl rfl rfl fo_28_0 ?_
            | refine sl_fieldAddr_ref rfl rfl rfl fo_28_0 ?_
          first
            | refine sl_load_rp1 rfl rfl rfl ag_26 rfl ?_
            | refine sl_load_blk1 rfl rfl rfl ag_26 (by first | exact List.Mem.head _ | exact List.Mem.tail _ (List.Mem.head _) | exact List.Mem.tail _ (List.Mem.tail _ (List.Mem.head _)) | exact List.Mem.tail _ (List.Mem.tail _ (List.Mem.tail _ (List.Mem.head _))) | exact List.Mem.tail _ (List.Mem.tail _ (List.Mem.tail _ (List.Mem.tail _ (List.Mem.head _)))) | exact List.Mem.tail _ (List.Mem.tail _ (List.Mem.tail _ (List.Mem.tail _ (List.Mem.tail _ (List.Mem.head _)))))) rfl ?_
          refine sl_mv rfl rfl rfl ?_
          refine sl_conv_int rfl rfl rfl is_37 u_5 ?_
          refine sl_bin rfl rfl rfl rfl rfl ?_
          refine sl_bs1 rfl rfl (.cons rfl .nil) u_26 sz_5 zs_5 (by decide) rfl rfl rfl rfl ?_
          first
            | refine sl_app rfl rfl rfl rfl u_26 ⟨_, u_26, rfl⟩ el_5 (by repeat (first | exact sized_nil | exact sized_map (fun _ => ⟨rfl, rfl⟩) | refine sized_cons rfl rfl ?_ | refine sized_append ?_ ?_ | assumption)) (by repeat (first | exact sized_nil | exact sized_map (fun _ => ⟨rfl, rfl⟩) | refine sized_cons rfl rfl ?_ | refine sized_append ?_ ?_ | assumption)) (by simp; omega) ((by rw [List.map_append]; exact congrArg _ (congrArg (fun z => [z]) (hi_byte x)) : _ = (m ++ [UInt8.ofNat (x % 128 + 128)]).map byteV)) (fun v25 => ?_)
            | (refine sl_f1 ?_; refine sl_app rfl rfl rfl rfl u_26 ⟨_, u_26, rfl⟩ el_5 (by repeat (first | exact sized_nil | exact sized_map (fun _ => ⟨rfl, rfl⟩) | refine sized_cons rfl rfl ?_ | refine sized_append ?_ ?_ | assumption)) (by repeat (first | exact sized_nil | exact sized_map (fun _ => ⟨rfl, rfl⟩) | refine sized_cons rfl rfl ?_ | refine sized_append ?_ ?_ | assumption)) (by simp; omega) ((by rw [List.map_append]; exact congrArg _ (congrArg (fun z => [z]) (hi_byte x)) : _ = (m ++ [UInt8.ofNat (x % 128 + 128)]).map byteV)) (fun v25 => ?_))
            | (refine sl_f2 ?_; refine sl_app rfl rfl rfl rfl u_26 ⟨_, u_26, rfl⟩ el_5 (by repeat (first | exact sized_nil | exact sized_map (fun _ => ⟨rfl, rfl⟩) | refine sized_cons rfl rfl ?_ | refine sized_append ?_ ?_ | assumption)) (by repeat (first | exact sized_nil | exact sized_map (fun _ => ⟨rfl, rfl⟩) | refine sized_cons rfl rfl ?_ | refine sized_append ?_ ?_ | assumption)) (by simp; omega) ((by rw [List.map_append]; exact congrArg _ (congrArg (fun z => [z]) (hi_byte x)) : _ = (m ++ [UInt8.ofNat (x % 128 + 128)]).map byteV)) (fun v25 => ?_))
            | (refine sl_f3 ?_; refine sl_app rfl rfl rfl rfl u_26 ⟨_, u_26, rfl⟩ el_5 (by repeat (first | exact sized_nil | exact sized_map (fun _ => ⟨rfl, rfl⟩) | refine sized_cons rfl rfl ?_ | refine sized_append ?_ ?_ | assumption)) (by repeat (first | exact sized_nil | exact sized_map (fun _ => ⟨rfl, rfl⟩) | refine sized_cons rfl rfl ?_ | refine sized_append ?_ ?_ | assumption)) (by simp; omega) ((by rw [List.map_append]; exact congrArg _ (congrArg (fun z => [z]) (hi_byte x)) : _ = (m ++ [UInt8.ofNat (x % 128 + 128)]).map byteV)) (fun v25 => ?_))
            | (refine sl_f4 ?_; refine sl_app rfl rfl rfl rfl u_26 ⟨_, u_26, rfl⟩ el_5 (by repeat (first | exact sized_nil | exact sized_map (fun _ => ⟨rfl, rfl⟩) | refine sized_cons rfl rfl ?_ | refine sized_append ?_ ?_ | assumption)) (by repeat (first | exact sized_nil | exact sized_map (fun _ => ⟨rfl, rfl⟩) | refine sized_cons rfl rfl ?_ | refine sized_append ?_ ?_ | assumption)) (by simp; omega) ((by rw [List.map_append]; exact congrArg _ (congrArg (fun z => [z]) (hi_byte x)) : _ = (m ++ [UInt8.ofNat (x % 128 + 128)]).map byteV)) (fun v25 => ?_))
            | (refine sl_f5 ?_; refine sl_app rfl rfl rfl rfl u_26 ⟨_, u_26, rfl⟩ el_5 (by repeat (first | exact sized_nil | exact sized_map (fun _ => ⟨rfl, rfl⟩) | refine sized_cons rfl rfl ?_ | refine sized_append ?_ ?_ | assumption)) (by repeat (first | exact sized_nil | exact sized_map (fun _ => ⟨rfl, rfl⟩) | refine sized_cons rfl rfl ?_ | refine sized_append ?_ ?_ | assumption)) (by simp; omega) ((by rw [List.map_append]; exact congrArg _ (congrArg (fun z => [z]) (hi_byte x)) : _ = (m ++ [UInt8.ofNat (x % 128 + 128)]).map byteV)) (fun v25 => ?_))
            | (refine sl_f6 ?_; refine sl_app rfl rfl rfl rfl u_26 ⟨_, u_26, rfl⟩ el_5 (by repeat (first | exact sized_nil | exact sized_map (fun _ => ⟨rfl, rfl⟩) | refine sized_cons rfl rfl ?_ | refine sized_append ?_ ?_ | assumption)) (by repeat (first | exact sized_nil | exact sized_map (fun _ => ⟨rfl, rfl⟩) | refine sized_cons rfl rfl ?_ | refine sized_append ?_ ?_ | assumption)) (by simp; omega) ((by rw [List.map_append]; exact congrArg _ (congrArg (fun z => [z]) (hi_byte x)) : _ = (m ++ [UInt8.ofNat (x % 128 + 128)]).map byteV)) (fun v25 => ?_))
          refine sl_nc rfl rfl rfl rfl ?_
          first
            | refine sl_fieldAddr_ptr rfl rfl rfl fo_28_0 ?_
            | refine sl_fieldAddr_rp rfl rfl rfl fo_28_0 ?_
            | refine sl_fieldAddr_ref rfl rfl rfl fo_28_0 ?_
          first
            | refine sl_st rfl rfl rfl rfl sz_26 rfl rfl rfl (Nat.le_of_ble_eq_true rfl) ?_
            | (refine sl_f1 ?_; refine sl_st rfl rfl rfl rfl sz_26 rfl rfl rfl (Nat.le_of_ble_eq_true rfl) ?_)
            | (refine sl_f2 ?_; refine sl_st rfl rfl rfl rfl sz_26 rfl rfl rfl (Nat.le_of_ble_eq_true rfl) ?_)
            | (refine sl_f3 ?_; refine sl_st rfl rfl rfl rfl sz_26 rfl rfl rfl (Nat.le_of_ble_eq_true rfl) ?_)
            | (refine sl_f4 ?_; refine sl_st rfl rfl rfl rfl sz_26 rfl rfl rfl (Nat.le_of_ble_eq_true rfl) ?_)
            | (refine sl_f5 ?_; refine sl_st rfl rfl rfl rfl sz_26 rfl rfl rfl (Nat.le_of_ble_eq_true rfl) ?_)
            | (refine sl_f6 ?_; refine sl_st rfl rfl rfl rfl sz_26 rfl rfl rfl (Nat.le_of_ble_eq_true rfl) ?_)
          refine sl_nil ?_
          refine sl_region ?_
          refine sl_mv rfl rfl rfl ?_
          refine sl_shr rfl rfl rfl rfl (by decide) ?_
          refine sl_set 15 (.val (.int .u64 ((x / 128 : Nat) : Int))) (shr7 x) ?_
          refine sl_as rfl rfl rfl ?_
          refine sl_nil ?_
          refine ⟨_, by omega, _, _, ?_, ?_, x / 128, v25, m ++ [UInt8.ofNat (x % 128 + 128)], rfl, rfl, rfl, rfl, by omega, by rw [← hm, encNum_ge hx]; simp⟩
          · refine ⟨rfl, ?_⟩; repeat (first | exact WkL.nil | refine WkL.cons (Weak.refl _) ?_ | refine WkL.cons (Weak.toV rfl) ?_ | refine WkL.cons (Weak.ref _) ?_ | refine WkL.cons (Weak.rp_agg _) ?_)
          · repeat (first | exact Sub.refl _ | exact Sub.none _ | refine Sub.p0 ?_ | refine Sub.p1 ?_ | refine Sub.p2 ?_ | refine Sub.p3 ?_ | refine Sub.p4 ?_ | refine Sub.p5 ?_ | refine Sub.p6 ?_ | refine Sub.drop ?_)
        · have hx : x < 128 := by have := of_decide_eq_false hx; omega
          refine sw_exit ?_
          refine sl_region ?_
          refine sl_mv rfl rfl rfl ?_
          refine sl_mv rfl rfl rfl ?_
          refine sl_nc rfl rfl rfl rfl ?_
          first
            | refine sl_fieldAddr_ptr rfl rfl rfl fo_28_0 ?_
            | refine sl_fieldAddr_rp rfl rfl rfl fo_28_0 ?_
            | refine sl_fieldAddr_ref rfl rfl rfl fo_28_0 ?_
          first
            | refine sl_load_rp1 rfl rfl rfl ag_26 rfl ?_
            | refine sl_load_blk1 rfl rfl rfl ag_26 (by first | exact List.Mem.head _ | exact List.Mem.tail _ (List.Mem.head _) | exact List.Mem.tail _ (List.Mem.tail _ (List.Mem.head _)) | exact List.Mem.tail _ (List.Mem.tail _ (List.Mem.tail _ (List.Mem.head _))) | exact List.Mem.tail _ (List.Mem.tail _ (List.Mem.tail _ (List.Mem.tail _ (List.Mem.head _)))) | exact List.Mem.tail _ (List.Mem.tail _ (List.Mem.tail _ (List.Mem.tail _ (List.Mem.tail _ (List.Mem.head _)))))) rfl ?_
          refine sl_mv rfl rfl rfl ?_
          refine sl_conv_int rfl rfl rfl is_37 u_5 ?_
          refine sl_bs1 rfl rfl (.cons rfl .nil) u_26 sz_5 zs_5 (by decide) rfl rfl rfl rfl ?_
          first
            | refine sl_app rfl rfl rfl rfl u_26 ⟨_, u_26, rfl⟩ el_5 (by repeat (first | exact sized_nil | exact sized_map (fun _ => ⟨rfl, rfl⟩) | refine sized_cons rfl rfl ?_ | refine sized_append ?_ ?_ | assumption)) (by repeat (first | exact sized_nil | exact sized_map (fun _ => ⟨rfl, rfl⟩) | refine sized_cons rfl rfl ?_ | refine sized_append ?_ ?_ | assumption)) (by simp; omega) ((by rw [List.map_append]; exact congrArg _ (congrArg (fun z => [z]) (lo_byte x)) : _ = (m ++ [UInt8.ofNat x]).map byteV)) (fun v36 => ?_)
            | (refine sl_f1 ?_; refine sl_app rfl rfl rfl rfl u_26 ⟨_, u_26, rfl⟩ el_5 (by repeat (first | exact sized_nil | exact sized_map (fun _ => ⟨rfl, rfl⟩) | refine sized_cons rfl rfl ?_ | refine sized_append ?_ ?_ | assumption)) (by repeat (first | exact sized_nil | exact sized_map (fun _ => ⟨rfl, rfl⟩) | refine sized_cons rfl rfl ?_ | refine sized_append ?_ ?_ | assumption)) (by simp; omega) ((by rw [List.map_append]; exact congrArg _ (congrArg (fun z => [z]) (lo_byte x)) : _ = (m ++ [UInt8.ofNat x]).map byteV)) (fun v36 => ?_))
            | (refine sl_f2 ?_; refine sl_app rfl rfl rfl rfl u_26 ⟨_, u_26, rfl⟩ el_5 (by repeat (first | exact sized_nil | exact sized_map (fun _ => ⟨rfl, rfl⟩) | refine sized_cons rfl rfl ?_ | refine sized_append ?_ ?_ | assumption)) (by repeat (first | exact sized_nil | exact sized_map (fun _ => ⟨rfl, rfl⟩) | refine sized_cons rfl rfl ?_ | refine sized_append ?_ ?_ | assumption)) (by simp; omega) ((by rw [List.map_append]; exact congrArg _ (congrArg (fun z => [z]) (lo_byte x)) : _ = (m ++ [UInt8.ofNat x]).map byteV)) (fun v36 => ?_))
            | (refine sl_f3 ?_; refine sl_app rfl rfl rfl rfl u_26 ⟨_, u_26, rfl⟩ el_5 (by repeat (first | exact sized_nil | exact sized_map (fun _ => ⟨rfl, rfl⟩) | refine sized_cons rfl rfl ?_ | refine sized_append ?_ ?_ | assumption)) (by repeat (first | exact sized_nil | exact sized_map (fun _ => ⟨rfl, rfl⟩) | refine sized_cons rfl rfl ?_ | refine sized_append ?_ ?_ | assumption)) (by simp; omega) ((by rw [List.map_append]; exact congrArg _ (congrArg (fun z => [z]) (lo_byte x)) : _ = (m ++ [UInt8.ofNat x]).map byteV)) (fun v36 => ?_))
            | (refine sl_f4 ?_; refine sl_app rfl rfl rfl rfl u_26 ⟨_, u_26, rfl⟩ el_5 (by repeat (first | exact sized_nil | exact sized_map (fun _ => ⟨rfl, rfl⟩) | refine sized_cons rfl rfl ?_ | refine sized_append ?_ ?_ | assumption)) (by repeat (first | exact sized_nil | exact sized_map (fun _ => ⟨rfl, rfl⟩) | refine sized_cons rfl rfl ?_ | refine sized_append ?_ ?_ | assumption)) (by simp; omega) ((by rw [List.map_append]; exact congrArg _ (congrArg (fun z => [z]) (lo_byte x)) : _ = (m ++ [UInt8.ofNat x]).map byteV)) (fun v36 => ?_))
            | (refine sl_f5 ?_; refine sl_app rfl rfl rfl rfl u_26 ⟨_, u_26, rfl⟩ el_5 (by repeat (first | exact sized_nil | exact sized_map (fun _ => ⟨rfl, rfl⟩) | refine sized_cons rfl rfl ?_ | refine sized_append ?_ ?_ | assumption)) (by repeat (first | exact sized_nil | exact sized_map (fun _ => ⟨rfl, rfl⟩) | refine sized_cons rfl rfl ?_ | refine sized_append ?_ ?_ | assumption)) (by simp; omega) ((by rw [List.map_append]; exact congrArg _ (congrArg (fun z => [z]) (lo_byte x)) : _ = (m ++ [UInt8.ofNat x]).map byteV)) (fun v36 => ?_))
            | (refine sl_f6 ?_; refine sl_app rfl rfl rfl rfl u_26 ⟨_, u_26, rfl⟩ el_5 (by repeat (first | exact sized_nil | exact sized_map (fun _ => ⟨rfl, rfl⟩) | refine sized_cons rfl rfl ?_ | refine sized_append ?_ ?_ | assumption)) (by repeat (first | exact sized_nil | exact sized_map (fun _ => ⟨rfl, rfl⟩) | refine sized_cons rfl rfl ?_ | refine sized_append ?_ ?_ | assumption)) (by simp; omega) ((by rw [List.map_append]; exact congrArg _ (congrArg (fun z => [z]) (lo_byte x)) : _ = (m ++ [UInt8.ofNat x]).map byteV)) (fun v36 => ?_))
          refine sl_nc rfl rfl rfl rfl ?_
          first
            | refine sl_fieldAddr_ptr rfl rfl rfl fo_28_0 ?_
            | refine sl_fieldAddr_rp rfl rfl rfl fo_28_0 ?_
            | refine sl_fieldAddr_ref rfl rfl rfl fo_28_0 ?_
          first
            | refine sl_st rfl rfl rfl rfl sz_26 rfl rfl rfl (Nat.le_of_ble_eq_true rfl) ?_
            | (refine sl_f1 ?_; refine sl_st rfl rfl rfl rfl sz_26 rfl rfl rfl (Nat.le_of_ble_eq_true rfl) ?_)
            | (refine sl_f2 ?_; refine sl_st rfl rfl rfl rfl sz_26 rfl rfl rfl (Nat.le_of_ble_eq_true rfl) ?_)
            | (refine sl_f3 ?_; refine sl_st rfl rfl rfl rfl sz_26 rfl rfl rfl (Nat.le_of_ble_eq_true rfl) ?_)
            | (refine sl_f4 ?_; refine sl_st rfl rfl rfl rfl sz_26 rfl rfl rfl (Nat.le_of_ble_eq_true rfl) ?_)
            | (refine sl_f5 ?_; refine sl_st rfl rfl rfl rfl sz_26 rfl rfl rfl (Nat.le_of_ble_eq_true rfl) ?_)
            | (refine sl_f6 ?_; refine sl_st rfl rfl rfl rfl sz_26 rfl rfl rfl (Nat.le_of_ble_eq_true rfl) ?_)
          refine sl_nil ?_
          refine sl_region ?_
          first
            | refine sl_inc rfl rfl rfl rfl (by omega) ?_
            | refine sl_add rfl rfl rfl rfl (by constructor <;> omega) ?_
            | refine sl_bin rfl rfl rfl rfl rfl ?_
          refine sl_mv rfl rfl rfl ?_
          refine sl_nil ?_
          have e : m ++ [UInt8.ofNat x] = l ++ (ns.take (k + 1)).flatMap encNum := by
            rw [take_snoc hk, List.flatMap_append, ← List.append_assoc]
            simp only [List.flatMap_cons, List.flatMap_nil, List.append_nil]
            rw [← hm, encNum_lt hx]
          refine ⟨_, by omega, _, _, ?_, ?_, k + 1, v36, _, rfl, rfl, rfl, rfl, by omega, e⟩
          · refine ⟨rfl, ?_⟩; repeat (first | exact WkL.nil | refine WkL.cons (Weak.refl _) ?_ | refine WkL.cons (Weak.toV rfl) ?_ | refine WkL.cons (Weak.ref _) ?_ | refine WkL.cons (Weak.rp_agg _) ?_)
          · repeat (first | exact Sub.refl _ | exact Sub.none _ | refine Sub.p0 ?_ | refine Sub.p1 ?_ | refine Sub.p2 ?_ | refine Sub.p3 ?_ | refine Sub.p4 ?_ | refine Sub.p5 ?_ | refine Sub.p6 ?_ | refine Sub.drop ?_)
    · have hk : k = ns.length := by have : ¬ k < ns.length := by simpa using hk
                                    omega
      subst hk
      rw [List.take_length] at hm0
      subst hm0
      refine sw_exit ?_
      refine ⟨rfl, _, _, res_none rfl, ?_, ⟨rfl, v, rfl⟩⟩
      repeat (first | exact Sub.refl _ | exact Sub.none _ | refine Sub.p0 ?_ | refine Sub.p1 ?_ | refine Sub.p2 ?_ | refine Sub.p3 ?_ | refine Sub.p4 ?_ | refine Sub.p5 ?_ | refine Sub.p6 ?_ | refine Sub.drop ?_)

end Go.Proofs.Ytioechdfghglhaa
