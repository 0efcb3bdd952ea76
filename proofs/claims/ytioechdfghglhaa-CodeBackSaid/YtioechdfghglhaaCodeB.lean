/- Walks: printed by a program of this session out of its script CodeB. -/
import Derived.Test.YtioechdfghglhaaSlT
import Derived.Test.YtioechdfghglhaaP3
import Derived.Test.YtioechdfghglhaaCodeA
namespace Go.Proofs.Ytioechdfghglhaa
set_option linter.unusedVariables false
set_option linter.unusedSimpArgs false
set_option maxRecDepth 4000
set_option maxHeartbeats 4000000
open Go Go.RowKit SL


def stop : List PanicEntry := [{ v := .iface 138 (.agg #[]), recovered := false }]

/-- Int writes numbers with signs. -/
theorem int_ok (p : Nat) (v : Value) (l : List UInt8) (ns : List Int) (σ : List Chunk) (hns : ∀ n ∈ ns, isI64 n) (hl : l.length + 10 * ns.length ≤ 100000000) :
    FSpec Try.prog 17 [.ptr p 0, .val (.list (ns.map i64V))] (.blk p [.own v (l.map byteV)] :: .spare v 1 :: σ)
      (fun d σ' => d = .tup [] ∧ ∃ v', σ' = .blk p [.own v' ((l ++ ns.flatMap encInt).map byteV)] :: .spare v' 1 :: σ) := by
  refine spec_of_sw Try.func17 rfl ?_
  refine sw_seq ?_
  refine sl_region ?_
  refine sl_mv rfl rfl rfl ?_
  first
    | refine sl_len rfl rfl rfl ⟨_, u_52⟩ ?_
    | refine sl_len_sl rfl rfl rfl ⟨_, u_52⟩ ?_
  refine sl_mv rfl rfl rfl ?_
  refine sl_nil ?_
  refine sw_block ?_
  refine sw_set 7 (.val (.int .i64 (ns.length : Int))) (len_eq (List.length_map ..)) ?_
  refine sw_loopw (fun nX sX δX σX => ∃ (k : Nat) (v : Value) (m : List UInt8), (ns.length - k) = nX ∧ sX = ⟨23, (.cons 0 (.ptr p 0) (.cons 6 (.val (.list (ns.map i64V))) (.cons 7 (.val (.int .i64 (ns.length : Int))) (.cons 8 (.val (.int .i64 (k : Int))) .nil))))⟩ ∧ δX = [] ∧ σX = .blk p [.own v (m.map byteV)] :: .spare v 1 :: σ ∧ k ≤ ns.length ∧ m = l ++ (ns.take k).flatMap encInt) ?_ ?_
  · refine ⟨_, _, _, ?_, ?_, 0, v, l, rfl, rfl, rfl, rfl, Nat.zero_le _, by simp⟩
    · refine ⟨rfl, ?_⟩; repeat (first | exact WkL.nil | refine WkL.cons (Weak.refl _) ?_ | refine WkL.cons (Weak.toV rfl) ?_ | refine WkL.cons (Weak.ref _) ?_ | refine WkL.cons (Weak.rp_agg _) ?_)
    · repeat (first | exact Sub.refl _ | exact Sub.none _ | refine Sub.p0 ?_ | refine Sub.p1 ?_ | refine Sub.p2 ?_ | refine Sub.p3 ?_ | refine Sub.p4 ?_ | refine Sub.p5 ?_ | refine Sub.p6 ?_ | refine Sub.drop ?_)
  · rintro nX sX δX σX ⟨k, v, m, rfl, rfl, rfl, rfl, hk0, hm0⟩
    refine sw_seq ?_
    refine sl_region ?_
    refine sl_bin rfl rfl rfl rfl rfl ?_
    refine sl_nil ?_
    refine sw_seq ?_
    refine sw_cond rfl (fun hk => ?_) (fun hk => ?_)
    · have hk : k < ns.length := by simpa using hk
      refine sw_skip ?_
      refine sw_seq ?_
      refine sw_block ?_
      refine sw_seq ?_
      refine sl_region ?_
      refine sl_indexAddr' rfl rfl rfl rfl u_52 sz_2 (by omega) (idx_map hk) rfl ?_
      first
        | refine sl_load_rp1 rfl rfl rfl ag_2 rfl ?_
        | refine sl_load_blk1 rfl rfl rfl ag_2 (by first | exact List.Mem.head _ | exact List.Mem.tail _ (List.Mem.head _) | exact List.Mem.tail _ (List.Mem.tail _ (List.Mem.head _)) | exact List.Mem.tail _ (List.Mem.tail _ (List.Mem.tail _ (List.Mem.head _))) | exact List.Mem.tail _ (List.Mem.tail _ (List.Mem.tail _ (List.Mem.tail _ (List.Mem.head _)))) | exact List.Mem.tail _ (List.Mem.tail _ (List.Mem.tail _ (List.Mem.tail _ (List.Mem.tail _ (List.Mem.head _)))))) rfl ?_
      refine sl_as rfl rfl rfl ?_
      refine sl_nil ?_
      refine sl_region ?_
      refine sl_mv rfl rfl rfl ?_
      refine sl_mv rfl rfl rfl ?_
      refine sl_conv_int rfl rfl rfl is_2 u_37 ?_
      refine sl_shl rfl rfl rfl rfl (by decide) ?_
      refine sl_mv rfl rfl rfl ?_
      refine sl_shr rfl rfl rfl rfl (by decide) ?_
      refine sl_conv_int rfl rfl rfl is_2 u_37 ?_
      refine sl_bin rfl rfl rfl rfl rfl ?_
      have hxk := hns ns[k] (List.getElem_mem hk)
      have hft := flat_len (f := encInt) (c := 10) (ns := ns) (fun n hn => encNum_len (zig_lt (hns n hn))) k
      have hml : m.length ≤ l.length + 10 * k := by rw [hm0, List.length_append]; omega
      refine sl_set 19 (.val (u64V (zig ns[k]))) (congrArg D.val (zig_bits hxk)) ?_
      refine sl_bs1 rfl rfl (.cons rfl .nil) u_51 sz_37 zs_37 (by decide) rfl rfl rfl rfl ?_
      refine sl_callf rfl rfl cal_28 (num_ok p v m [zig ns[k]] σ (by simpa using zig_lt hxk) (by simp; omega)) ?_ ?_ ?_ (fun _ _ h => h.elim)
      · repeat (first | exact Weaks.nil | refine Weaks.cons (Weak.junk _) ?_ | refine Weaks.cons (Weak.refl _) ?_ | refine Weaks.cons (Weak.toV rfl) ?_ | refine Weaks.cons (Weak.ref _) ?_ | refine Weaks.cons (Weak.rp_agg _) ?_)
      · repeat (first | exact Sub.refl _ | exact Sub.none _ | refine Sub.p0 ?_ | refine Sub.p1 ?_ | refine Sub.p2 ?_ | refine Sub.p3 ?_ | refine Sub.p4 ?_ | refine Sub.p5 ?_ | refine Sub.p6 ?_ | refine Sub.drop ?_)
      rintro _ _ ⟨rfl, v2, rfl⟩
      refine sl_nil ?_
      refine sl_region ?_
      first
        | refine sl_inc rfl rfl rfl rfl (by omega) ?_
        | refine sl_add rfl rfl rfl rfl (by constructor <;> omega) ?_
        | refine sl_bin rfl rfl rfl rfl rfl ?_
      refine sl_mv rfl rfl rfl ?_
      refine sl_nil ?_
      have e : m ++ [zig ns[k]].flatMap encNum = l ++ (ns.take (k + 1)).flatMap encInt := by
        rw [flat_snoc hk, hm0]; simp [encInt]
      refine ⟨_, by omega, _, _, ?_, ?_, k + 1, v2, _, rfl, rfl, rfl, rfl, by omega, e⟩
      · refine ⟨rfl, ?_⟩; repeat (first | exact WkL.nil | refine WkL.cons (Weak.refl _) ?_ | refine WkL.cons (Weak.toV rfl) ?_ | refine WkL.cons (Weak.ref _) ?_ | refine WkL.cons (Weak.rp_agg _) ?_)
      · repeat (first | exact Sub.refl _ | exact Sub.none _ | refine Sub.p0 ?_ | refine Sub.p1 ?_ | refine Sub.p2 ?_ | refine Sub.p3 ?_ | refine Sub.p4 ?_ | refine Sub.p5 ?_ | refine Sub.p6 ?_ | refine Sub.drop ?_)
    · have hk : k = ns.length := by have : ¬ k < ns.length := by simpa using hk
                                    omega
      subst hk
      rw [List.take_length] at hm0
      subst hm0
      refine sw_exit ?_
      refine ⟨rfl, _, _, res_none rfl, ?_, ⟨rfl, v, rfl⟩⟩
      repeat (first | exact Sub.refl _ | exact Sub.none _ | refine Sub.p0 ?_ | refine Sub.p1 ?_ | refine Sub.p2 ?_ | refine Sub.p3 ?_ | refine Sub.p4 ?_ | refine Sub.p5 ?_ | refine Sub.p6 ?_ | refine Sub.drop ?_)

/-- Text writes texts. -/
theorem text_ok (p : Nat) (v : Value) (l : List UInt8) (ss : List (List UInt8)) (c : Nat) (σ : List Chunk) (hss : ∀ s ∈ ss, s.length ≤ c) (hl : l.length + (10 + c) * ss.length ≤ 100000000) :
    FSpec Try.prog 29 [.ptr p 0, .val (.list (ss.map strV))] (.blk p [.own v (l.map byteV)] :: .spare v 1 :: σ)
      (fun d σ' => d = .tup [] ∧ ∃ v', σ' = .blk p [.own v' ((l ++ ss.flatMap encText).map byteV)] :: .spare v' 1 :: σ) := by
  refine spec_of_sw Try.func29 rfl ?_
  refine sw_seq ?_
  refine sl_region ?_
  refine sl_mv rfl rfl rfl ?_
  first
    | refine sl_len rfl rfl rfl ⟨_, u_53⟩ ?_
    | refine sl_len_sl rfl rfl rfl ⟨_, u_53⟩ ?_
  refine sl_mv rfl rfl rfl ?_
  refine sl_nil ?_
  refine sw_block ?_
  refine sw_set 7 (.val (.int .i64 (ss.length : Int))) (len_eq (List.length_map ..)) ?_
  refine sw_loopw (fun nX sX δX σX => ∃ (k : Nat) (v : Value) (m : List UInt8), (ss.length - k) = nX ∧ sX = ⟨28, (.cons 0 (.ptr p 0) (.cons 6 (.val (.list (ss.map strV))) (.cons 7 (.val (.int .i64 (ss.length : Int))) (.cons 8 (.val (.int .i64 (k : Int))) .nil))))⟩ ∧ δX = [] ∧ σX = .blk p [.own v (m.map byteV)] :: .spare v 1 :: σ ∧ k ≤ ss.length ∧ m = l ++ (ss.take k).flatMap encText) ?_ ?_
  · refine ⟨_, _, _, ?_, ?_, 0, v, l, rfl, rfl, rfl, rfl, Nat.zero_le _, by simp⟩
    · refine ⟨rfl, ?_⟩; repeat (first | exact WkL.nil | refine WkL.cons (Weak.refl _) ?_ | refine WkL.cons (Weak.toV rfl) ?_ | refine WkL.cons (Weak.ref _) ?_ | refine WkL.cons (Weak.rp_agg _) ?_)
    · repeat (first | exact Sub.refl _ | exact Sub.none _ | refine Sub.p0 ?_ | refine Sub.p1 ?_ | refine Sub.p2 ?_ | refine Sub.p3 ?_ | refine Sub.p4 ?_ | refine Sub.p5 ?_ | refine Sub.p6 ?_ | refine Sub.drop ?_)
  · rintro nX sX δX σX ⟨k, v, m, rfl, rfl, rfl, rfl, hk0, hm0⟩
    refine sw_seq ?_
    refine sl_region ?_
    refine sl_bin rfl rfl rfl rfl rfl ?_
    refine sl_nil ?_
    refine sw_seq ?_
    refine sw_cond rfl (fun hk => ?_) (fun hk => ?_)
    · have hk : k < ss.length := by simpa using hk
      refine sw_skip ?_
      refine sw_seq ?_
      refine sw_block ?_
      refine sw_seq ?_
      refine sl_region ?_
      refine sl_indexAddr' rfl rfl rfl rfl u_53 sz_9 (by omega) (idx_map hk) rfl ?_
      first
        | refine sl_load_rp1 rfl rfl rfl ag_9 rfl ?_
        | refine sl_load_blk1 rfl rfl rfl ag_9 (by first | exact List.Mem.head _ | exact List.Mem.tail _ (List.Mem.head _) | exact List.Mem.tail _ (List.Mem.tail _ (List.Mem.head _)) | exact List.Mem.tail _ (List.Mem.tail _ (List.Mem.tail _ (List.Mem.head _))) | exact List.Mem.tail _ (List.Mem.tail _ (List.Mem.tail _ (List.Mem.tail _ (List.Mem.head _)))) | exact List.Mem.tail _ (List.Mem.tail _ (List.Mem.tail _ (List.Mem.tail _ (List.Mem.tail _ (List.Mem.head _)))))) rfl ?_
      refine sl_as rfl rfl rfl ?_
      refine sl_nil ?_
      refine sw_seq ?_
      refine sl_region ?_
      refine sl_mv rfl rfl rfl ?_
      refine sl_mv rfl rfl rfl ?_
      refine sl_len_str rfl rfl rfl u_9 ?_
      refine sl_conv_int rfl rfl rfl is_3 u_37 ?_
      have hxk := hss ss[k] (List.getElem_mem hk)
      have hmul : (10 + c) * (k + 1) ≤ (10 + c) * ss.length := Nat.mul_le_mul (Nat.le_refl _) hk
      rw [Nat.mul_succ] at hmul
      have hcl : c ≤ 100000000 := by omega
      have hkk : 10 * k ≤ (10 + c) * k := Nat.mul_le_mul (by omega) (Nat.le_refl _)
      have hft := flat_len (f := encText) (c := 10 + c) (ns := ss) (fun s hs => by have := encNum_len (n := s.length) (by have := hss s hs; omega); have := hss s hs; unfold encText; rw [List.length_append]; omega) k
      have hml : m.length ≤ l.length + (10 + c) * k := by rw [hm0, List.length_append]; omega
      have hel := encNum_len (n := ss[k].length) (by omega)
      refine sl_set 15 (.val (u64V ss[k].length)) (congrArg (fun z => D.val (.int .u64 z)) (wrapped_u64 _ (by omega))) ?_
      refine sl_bs1 rfl rfl (.cons rfl .nil) u_51 sz_37 zs_37 (by decide) rfl rfl rfl rfl ?_
      refine sl_callf rfl rfl cal_28 (num_ok p v m [ss[k].length] σ (by simp; omega) (by simp; omega)) ?_ ?_ ?_ (fun _ _ h => h.elim)
      · repeat (first | exact Weaks.nil | refine Weaks.cons (Weak.junk _) ?_ | refine Weaks.cons (Weak.refl _) ?_ | refine Weaks.cons (Weak.toV rfl) ?_ | refine Weaks.cons (Weak.ref _) ?_ | refine Weaks.cons (Weak.rp_agg _) ?_)
      · repeat (first | exact Sub.refl _ | exact Sub.none _ | refine Sub.p0 ?_ | refine Sub.p1 ?_ | refine Sub.p2 ?_ | refine Sub.p3 ?_ | refine Sub.p4 ?_ | refine Sub.p5 ?_ | refine Sub.p6 ?_ | refine Sub.drop ?_)
      rintro _ _ ⟨rfl, v2, rfl⟩
      refine sl_nil ?_
      refine sl_region ?_
      refine sl_mv rfl rfl rfl ?_
      refine sl_mv rfl rfl rfl ?_
      refine sl_nc rfl rfl rfl rfl ?_
      first
        | refine sl_fieldAddr_ptr rfl rfl rfl fo_28_0 ?_
        | refine sl_fieldAddr_rp rfl rfl rfl fo_28_0 ?_
        | refine sl_fieldAddr_ref rfl rfl rfl fo_28_0 ?_
      first
        | refine sl_load_rp1 rfl rfl rfl ag_26 rfl ?_
        | refine sl_load_blk1 rfl rfl rfl ag_26 (by first | exact List.Mem.head _ | exact List.Mem.tail _ (List.Mem.head _) | exact List.Mem.tail _ (List.Mem.tail _ (List.Mem.head _)) | exact List.Mem.tail _ (List.Mem.tail _ (List.Mem.tail _ (List.Mem.head _))) | exact List.Mem.tail _ (List.Mem.tail _ (List.Mem.tail _ (List.Mem.tail _ (List.Mem.head _)))) | exact List.Mem.tail _ (List.Mem.tail _ (List.Mem.tail _ (List.Mem.tail _ (List.Mem.tail _ (List.Mem.head _)))))) rfl ?_
      refine sl_mv rfl rfl rfl ?_
      first
        | refine sl_app_str rfl rfl rfl rfl u_26 u_9 el_5 (by repeat (first | exact sized_nil | exact sized_map (fun _ => ⟨rfl, rfl⟩) | refine sized_cons rfl rfl ?_ | refine sized_append ?_ ?_ | assumption)) (by simp; omega) ((by rw [← List.map_append] : _ = ((m ++ [ss[k].length].flatMap encNum) ++ ss[k]).map byteV)) (fun v24 => ?_)
        | (refine sl_f1 ?_; refine sl_app_str rfl rfl rfl rfl u_26 u_9 el_5 (by repeat (first | exact sized_nil | exact sized_map (fun _ => ⟨rfl, rfl⟩) | refine sized_cons rfl rfl ?_ | refine sized_append ?_ ?_ | assumption)) (by simp; omega) ((by rw [← List.map_append] : _ = ((m ++ [ss[k].length].flatMap encNum) ++ ss[k]).map byteV)) (fun v24 => ?_))
        | (refine sl_f2 ?_; refine sl_app_str rfl rfl rfl rfl u_26 u_9 el_5 (by repeat (first | exact sized_nil | exact sized_map (fun _ => ⟨rfl, rfl⟩) | refine sized_cons rfl rfl ?_ | refine sized_append ?_ ?_ | assumption)) (by simp; omega) ((by rw [← List.map_append] : _ = ((m ++ [ss[k].length].flatMap encNum) ++ ss[k]).map byteV)) (fun v24 => ?_))
        | (refine sl_f3 ?_; refine sl_app_str rfl rfl rfl rfl u_26 u_9 el_5 (by repeat (first | exact sized_nil | exact sized_map (fun _ => ⟨rfl, rfl⟩) | refine sized_cons rfl rfl ?_ | refine sized_append ?_ ?_ | assumption)) (by simp; omega) ((by rw [← List.map_append] : _ = ((m ++ [ss[k].length].flatMap encNum) ++ ss[k]).map byteV)) (fun v24 => ?_))
        | (refine sl_f4 ?_; refine sl_app_str rfl rfl rfl rfl u_26 u_9 el_5 (by repeat (first | exact sized_nil | exact sized_map (fun _ => ⟨rfl, rfl⟩) | refine sized_cons rfl rfl ?_ | refine sized_append ?_ ?_ | assumption)) (by simp; omega) ((by rw [← List.map_append] : _ = ((m ++ [ss[k].length].flatMap encNum) ++ ss[k]).map byteV)) (fun v24 => ?_))
        | (refine sl_f5 ?_; refine sl_app_str rfl rfl rfl rfl u_26 u_9 el_5 (by repeat (first | exact sized_nil | exact sized_map (fun _ => ⟨rfl, rfl⟩) | refine sized_cons rfl rfl ?_ | refine sized_append ?_ ?_ | assumption)) (by simp; omega) ((by rw [← List.map_append] : _ = ((m ++ [ss[k].length].flatMap encNum) ++ ss[k]).map byteV)) (fun v24 => ?_))
        | (refine sl_f6 ?_; refine sl_app_str rfl rfl rfl rfl u_26 u_9 el_5 (by repeat (first | exact sized_nil | exact sized_map (fun _ => ⟨rfl, rfl⟩) | refine sized_cons rfl rfl ?_ | refine sized_append ?_ ?_ | assumption)) (by simp; omega) ((by rw [← List.map_append] : _ = ((m ++ [ss[k].length].flatMap encNum) ++ ss[k]).map byteV)) (fun v24 => ?_))
      refine sl_nc rfl rfl rfl rfl ?_
      first
        | refine sl_fieldAddr_ptr rfl rfl rfl fo_28_0 ?_
        | refine sl_fieldAddr_rp rfl rfl rfl fo_28_0 ?_
        | refine sl_fieldAddr_ref rfl rfl rfl fo_28_0 ?_
      first
        | refine sl_st rfl rfl rfl rfl sz_26 rfl rfl rfl (Nat.le_of_ble_eq_true rfl) ?_
        | (refine sl_f1 ?_; refine sl_st rfl rfl rfl rfl sz_26 rfl rfl rfl (Nat.le_of_ble_eq_true rfl) ?_)
        | (refine sl_f2 ?_; refine sl_st rfl rfl rfl rfl sz_26 rfl rfl rfl (Nat.le_of_ble_eq_true rfl) ?_)
        | (refine sl_f3 ?_; refine sl_st rfl rfl rfl rfl sz_26 rfl rfl rfl (Nat.le_of_ble_eq_true rfl) ?_)
        | (refine sl_f4 ?_; refine sl_st rfl rfl rfl rfl sz_26 rfl rfl rfl (Nat.le_of_ble_eq_true rfl) ?_)
        | (refine sl_f5 ?_; refine sl_st rfl rfl rfl rfl sz_26 rfl rfl rfl (Nat.le_of_ble_eq_true rfl) ?_)
        | (refine sl_f6 ?_; refine sl_st rfl rfl rfl rfl sz_26 rfl rfl rfl (Nat.le_of_ble_eq_true rfl) ?_)
      refine sl_nil ?_
      refine sl_region ?_
      first
        | refine sl_inc rfl rfl rfl rfl (by omega) ?_
        | refine sl_add rfl rfl rfl rfl (by constructor <;> omega) ?_
        | refine sl_bin rfl rfl rfl rfl rfl ?_
      refine sl_mv rfl rfl rfl ?_
      refine sl_nil ?_
      have e : (m ++ [ss[k].length].flatMap encNum) ++ ss[k] = l ++ (ss.take (k + 1)).flatMap encText := by
        rw [flat_snoc hk, hm0]; simp [encText]
      refine ⟨_, by omega, _, _, ?_, ?_, k + 1, v24, _, rfl, rfl, rfl, rfl, by omega, e⟩
      · refine ⟨rfl, ?_⟩; repeat (first | exact WkL.nil | refine WkL.cons (Weak.refl _) ?_ | refine WkL.cons (Weak.toV rfl) ?_ | refine WkL.cons (Weak.ref _) ?_ | refine WkL.cons (Weak.rp_agg _) ?_)
      · repeat (first | exact Sub.refl _ | exact Sub.none _ | refine Sub.p0 ?_ | refine Sub.p1 ?_ | refine Sub.p2 ?_ | refine Sub.p3 ?_ | refine Sub.p4 ?_ | refine Sub.p5 ?_ | refine Sub.p6 ?_ | refine Sub.drop ?_)
    · have hk : k = ss.length := by have : ¬ k < ss.length := by simpa using hk
                                    omega
      subst hk
      rw [List.take_length] at hm0
      subst hm0
      refine sw_exit ?_
      refine ⟨rfl, _, _, res_none rfl, ?_, ⟨rfl, v, rfl⟩⟩
      repeat (first | exact Sub.refl _ | exact Sub.none _ | refine Sub.p0 ?_ | refine Sub.p1 ?_ | refine Sub.p2 ?_ | refine Sub.p3 ?_ | refine Sub.p4 ?_ | refine Sub.p5 ?_ | refine Sub.p6 ?_ | refine Sub.drop ?_)

/-- Bool writes truths. -/
theorem bool_ok (p : Nat) (v : Value) (l : List UInt8) (bs : List Bool) (σ : List Chunk) (hl : l.length + 10 * bs.length ≤ 100000000) :
    FSpec Try.prog 30 [.ptr p 0, .val (.list (bs.map boolV))] (.blk p [.own v (l.map byteV)] :: .spare v 1 :: σ)
      (fun d σ' => d = .tup [] ∧ ∃ v', σ' = .blk p [.own v' ((l ++ bs.flatMap encBool).map byteV)] :: .spare v' 1 :: σ) := by
  refine spec_of_sw Try.func30 rfl ?_
  refine sw_seq ?_
  refine sl_region ?_
  refine sl_mv rfl rfl rfl ?_
  first
    | refine sl_len rfl rfl rfl ⟨_, u_54⟩ ?_
    | refine sl_len_sl rfl rfl rfl ⟨_, u_54⟩ ?_
  refine sl_mv rfl rfl rfl ?_
  refine sl_nil ?_
  refine sw_block ?_
  refine sw_set 8 (.val (.int .i64 (bs.length : Int))) (len_eq (List.length_map ..)) ?_
  refine sw_loopw (fun nX sX δX σX => ∃ (k : Nat) (v : Value) (m : List UInt8), (bs.length - k) = nX ∧ sX = ⟨19, (.cons 0 (.ptr p 0) (.cons 7 (.val (.list (bs.map boolV))) (.cons 8 (.val (.int .i64 (bs.length : Int))) (.cons 9 (.val (.int .i64 (k : Int))) .nil))))⟩ ∧ δX = [] ∧ σX = .blk p [.own v (m.map byteV)] :: .spare v 1 :: σ ∧ k ≤ bs.length ∧ m = l ++ (bs.take k).flatMap encBool) ?_ ?_
  · refine ⟨_, _, _, ?_, ?_, 0, v, l, rfl, rfl, rfl, rfl, Nat.zero_le _, by simp⟩
    · refine ⟨rfl, ?_⟩; repeat (first | exact WkL.nil | refine WkL.cons (Weak.refl _) ?_ | refine WkL.cons (Weak.toV rfl) ?_ | refine WkL.cons (Weak.ref _) ?_ | refine WkL.cons (Weak.rp_agg _) ?_)
    · repeat (first | exact Sub.refl _ | exact Sub.none _ | refine Sub.p0 ?_ | refine Sub.p1 ?_ | refine Sub.p2 ?_ | refine Sub.p3 ?_ | refine Sub.p4 ?_ | refine Sub.p5 ?_ | refine Sub.p6 ?_ | refine Sub.drop ?_)
  · rintro nX sX δX σX ⟨k, v, m, rfl, rfl, rfl, rfl, hk0, hm0⟩
    refine sw_seq ?_
    refine sl_region ?_
    refine sl_bin rfl rfl rfl rfl rfl ?_
    refine sl_nil ?_
    refine sw_seq ?_
    refine sw_cond rfl (fun hk => ?_) (fun hk => ?_)
    · have hk : k < bs.length := by simpa using hk
      refine sw_skip ?_
      refine sw_seq ?_
      refine sw_block ?_
      refine sw_seq ?_
      refine sl_region ?_
      refine sl_indexAddr' rfl rfl rfl rfl u_54 sz_4 (by omega) (idx_map hk) rfl ?_
      first
        | refine sl_load_rp1 rfl rfl rfl ag_4 rfl ?_
        | refine sl_load_blk1 rfl rfl rfl ag_4 (by first | exact List.Mem.head _ | exact List.Mem.tail _ (List.Mem.head _) | exact List.Mem.tail _ (List.Mem.tail _ (List.Mem.head _)) | exact List.Mem.tail _ (List.Mem.tail _ (List.Mem.tail _ (List.Mem.head _))) | exact List.Mem.tail _ (List.Mem.tail _ (List.Mem.tail _ (List.Mem.tail _ (List.Mem.head _)))) | exact List.Mem.tail _ (List.Mem.tail _ (List.Mem.tail _ (List.Mem.tail _ (List.Mem.tail _ (List.Mem.head _)))))) rfl ?_
      refine sl_as rfl rfl rfl ?_
      refine sl_nil ?_
      refine sw_seq ?_
      refine sl_region ?_
      refine sl_as rfl rfl rfl ?_
      refine sl_nil ?_
      refine sw_seq ?_
      refine sw_seq ?_
      refine sl_region ?_
      refine sl_mv rfl rfl rfl ?_
      refine sl_nil ?_
      refine sw_cutk ⟨19, (.cons 0 (.ptr p 0) (.cons 7 (.val (.list (bs.map boolV))) (.cons 8 (.val (.int .i64 (bs.length : Int))) (.cons 9 (.val (.int .i64 (k : Int))) (.cons 6 (.val (u64V (b01 bs[k]))) .nil)))))⟩ (.blk p [.own v (m.map byteV)] :: .spare v 1 :: σ) (True) ?_ ?_
      · refine sw_cond rfl (fun hb => ?_) (fun hb => ?_)
        · refine sl_region ?_
          refine sl_as rfl rfl rfl ?_
          refine sl_set 6 (.val (u64V (b01 bs[k]))) (by show D.val (.int .u64 1) = _; rw [show bs[k] = true from hb]; rfl) ?_
          refine sl_nil ?_
          refine ⟨?_, ?_, rfl, trivial⟩
          · refine ⟨rfl, ?_⟩; repeat (first | exact WkL.nil | refine WkL.cons (Weak.refl _) ?_ | refine WkL.cons (Weak.toV rfl) ?_ | refine WkL.cons (Weak.ref _) ?_ | refine WkL.cons (Weak.rp_agg _) ?_)
          · repeat (first | exact Sub.refl _ | exact Sub.none _ | refine Sub.p0 ?_ | refine Sub.p1 ?_ | refine Sub.p2 ?_ | refine Sub.p3 ?_ | refine Sub.p4 ?_ | refine Sub.p5 ?_ | refine Sub.p6 ?_ | refine Sub.drop ?_)
        · refine sw_set 6 (.val (u64V (b01 bs[k]))) (by show D.val (.int .u64 0) = _; rw [show bs[k] = false from hb]; rfl) ?_
          refine sw_skip ?_
          refine ⟨?_, ?_, rfl, trivial⟩
          · refine ⟨rfl, ?_⟩; repeat (first | exact WkL.nil | refine WkL.cons (Weak.refl _) ?_ | refine WkL.cons (Weak.toV rfl) ?_ | refine WkL.cons (Weak.ref _) ?_ | refine WkL.cons (Weak.rp_agg _) ?_)
          · repeat (first | exact Sub.refl _ | exact Sub.none _ | refine Sub.p0 ?_ | refine Sub.p1 ?_ | refine Sub.p2 ?_ | refine Sub.p3 ?_ | refine Sub.p4 ?_ | refine Sub.p5 ?_ | refine Sub.p6 ?_ | refine Sub.drop ?_)
      · intro _
        have hft := flat_len (f := encBool) (c := 10) (ns := bs) (fun b hb => encNum_len (by unfold b01; split <;> decide)) k
        have hml : m.length ≤ l.length + 10 * k := by rw [hm0, List.length_append]; omega
        refine sl_region ?_
        refine sl_mv rfl rfl rfl ?_
        refine sl_mv rfl rfl rfl ?_
        refine sl_bs1 rfl rfl (.cons rfl .nil) u_51 sz_37 zs_37 (by decide) rfl rfl rfl rfl ?_
        refine sl_callf rfl rfl cal_28 (num_ok p v m [b01 bs[k]] σ (by simp; unfold b01; split <;> decide) (by simp; omega)) ?_ ?_ ?_ (fun _ _ h => h.elim)
        · repeat (first | exact Weaks.nil | refine Weaks.cons (Weak.junk _) ?_ | refine Weaks.cons (Weak.refl _) ?_ | refine Weaks.cons (Weak.toV rfl) ?_ | refine Weaks.cons (Weak.ref _) ?_ | refine Weaks.cons (Weak.rp_agg _) ?_)
        · repeat (first | exact Sub.refl _ | exact Sub.none _ | refine Sub.p0 ?_ | refine Sub.p1 ?_ | refine Sub.p2 ?_ | refine Sub.p3 ?_ | refine Sub.p4 ?_ | refine Sub.p5 ?_ | refine Sub.p6 ?_ | refine Sub.drop ?_)
        rintro _ _ ⟨rfl, v2, rfl⟩
        refine sl_nil ?_
        refine sl_region ?_
        first
          | refine sl_inc rfl rfl rfl rfl (by omega) ?_
          | refine sl_add rfl rfl rfl rfl (by constructor <;> omega) ?_
          | refine sl_bin rfl rfl rfl rfl rfl ?_
        refine sl_mv rfl rfl rfl ?_
        refine sl_nil ?_
        have e : m ++ [b01 bs[k]].flatMap encNum = l ++ (bs.take (k + 1)).flatMap encBool := by
          rw [flat_snoc hk, hm0]; simp [encBool]
        refine ⟨_, by omega, _, _, ?_, ?_, k + 1, v2, _, rfl, rfl, rfl, rfl, by omega, e⟩
        · refine ⟨rfl, ?_⟩; repeat (first | exact WkL.nil | refine WkL.cons (Weak.refl _) ?_ | refine WkL.cons (Weak.toV rfl) ?_ | refine WkL.cons (Weak.ref _) ?_ | refine WkL.cons (Weak.rp_agg _) ?_)
        · repeat (first | exact Sub.refl _ | exact Sub.none _ | refine Sub.p0 ?_ | refine Sub.p1 ?_ | refine Sub.p2 ?_ | refine Sub.p3 ?_ | refine Sub.p4 ?_ | refine Sub.p5 ?_ | refine Sub.p6 ?_ | refine Sub.drop ?_)
    · have hk : k = bs.length := by have : ¬ k < bs.length := by simpa using hk
                                    omega
      subst hk
      rw [List.take_length] at hm0
      subst hm0
      refine sw_exit ?_
      refine ⟨rfl, _, _, res_none rfl, ?_, ⟨rfl, v, rfl⟩⟩
      repeat (first | exact Sub.refl _ | exact Sub.none _ | refine Sub.p0 ?_ | refine Sub.p1 ?_ | refine Sub.p2 ?_ | refine Sub.p3 ?_ | refine Sub.p4 ?_ | refine Sub.p5 ?_ | refine Sub.p6 ?_ | refine Sub.drop ?_)

/-- Bytes tells all that was written. -/
theorem bytes_ok (p : Nat) (v : Value) (l : List UInt8) (σ : List Chunk) (hl : l.length ≤ 100000000) :
    FSpec Try.prog 19 [.ptr p 0] (.blk p [.own v (l.map byteV)] :: σ) (fun d σ' => d = .val (.list (l.map byteV)) ∧ σ' = .blk p [.own v (l.map byteV)] :: σ) := by
  refine spec_of_sw Try.func19 rfl ?_
  refine sw_seq ?_
  refine sl_region ?_
  refine sl_as rfl rfl rfl ?_
  refine sl_nil ?_
  refine sw_seq ?_
  refine sl_region ?_
  refine sl_mv rfl rfl rfl ?_
  refine sl_nc rfl rfl rfl rfl ?_
  first
    | refine sl_fieldAddr_ptr rfl rfl rfl fo_28_0 ?_
    | refine sl_fieldAddr_rp rfl rfl rfl fo_28_0 ?_
    | refine sl_fieldAddr_ref rfl rfl rfl fo_28_0 ?_
  first
    | refine sl_load_rp1 rfl rfl rfl ag_26 rfl ?_
    | refine sl_load_blk1 rfl rfl rfl ag_26 (by first | exact List.Mem.head _ | exact List.Mem.tail _ (List.Mem.head _) | exact List.Mem.tail _ (List.Mem.tail _ (List.Mem.head _)) | exact List.Mem.tail _ (List.Mem.tail _ (List.Mem.tail _ (List.Mem.head _))) | exact List.Mem.tail _ (List.Mem.tail _ (List.Mem.tail _ (List.Mem.tail _ (List.Mem.head _)))) | exact List.Mem.tail _ (List.Mem.tail _ (List.Mem.tail _ (List.Mem.tail _ (List.Mem.tail _ (List.Mem.head _)))))) rfl ?_
  refine sl_callf rfl rfl cal_59 (clone_ok l (.blk p [.own v (l.map byteV)] :: σ) hl) ?_ ?_ ?_ (fun _ _ h => h.elim)
  · repeat (first | exact Weaks.nil | refine Weaks.cons (Weak.junk _) ?_ | refine Weaks.cons (Weak.refl _) ?_ | refine Weaks.cons (Weak.toV rfl) ?_ | refine Weaks.cons (Weak.ref _) ?_ | refine Weaks.cons (Weak.rp_agg _) ?_)
  · repeat (first | exact Sub.refl _ | exact Sub.none _ | refine Sub.p0 ?_ | refine Sub.p1 ?_ | refine Sub.p2 ?_ | refine Sub.p3 ?_ | refine Sub.p4 ?_ | refine Sub.p5 ?_ | refine Sub.p6 ?_ | refine Sub.drop ?_)
  rintro _ _ ⟨rfl, rfl⟩
  refine sl_as rfl rfl rfl ?_
  refine sl_nil ?_
  refine sw_ret ⟨rfl, _, _, res_one rfl rfl, ?_, ⟨rfl, rfl⟩⟩
  repeat (first | exact Sub.refl _ | exact Sub.none _ | refine Sub.p0 ?_ | refine Sub.p1 ?_ | refine Sub.p2 ?_ | refine Sub.p3 ?_ | refine Sub.p4 ?_ | refine Sub.p5 ?_ | refine Sub.p6 ?_ | refine Sub.drop ?_)

/-- NewReader. -/
theorem newReader_ok (l : List UInt8) (σ : List Chunk) (hl : l.length ≤ 100000000) :
    FSpec Try.prog 18 [.val (.list (l.map byteV))] σ (fun d σ' => ∃ q, d = .ptr q 0 ∧ σ' = .blk q [.val (.list (l.map byteV)), .val (.bool false)] :: σ) := by
  refine spec_of_sw Try.func18 rfl ?_
  refine sw_seq ?_
  refine sl_region ?_
  refine sl_as rfl rfl rfl ?_
  refine sl_nil ?_
  refine sw_seq ?_
  refine sl_region ?_
  refine sl_mv rfl rfl rfl ?_
  refine sl_callf rfl rfl cal_59 (clone_ok l σ hl) ?_ ?_ ?_ (fun _ _ h => h.elim)
  · repeat (first | exact Weaks.nil | refine Weaks.cons (Weak.junk _) ?_ | refine Weaks.cons (Weak.refl _) ?_ | refine Weaks.cons (Weak.toV rfl) ?_ | refine Weaks.cons (Weak.ref _) ?_ | refine Weaks.cons (Weak.rp_agg _) ?_)
  · repeat (first | exact Sub.refl _ | exact Sub.none _ | refine Sub.p0 ?_ | refine Sub.p1 ?_ | refine Sub.p2 ?_ | refine Sub.p3 ?_ | refine Sub.p4 ?_ | refine Sub.p5 ?_ | refine Sub.p6 ?_ | refine Sub.drop ?_)
  rintro _ _ ⟨rfl, rfl⟩
  refine sl_bd rfl rfl (.cons rfl .nil) bi_113 zd_113 rfl ?_
  refine sl_bx rfl rfl rfl rfl (fun b6 => ?_)
  refine sl_as rfl rfl rfl ?_
  refine sl_nil ?_
  refine sw_ret ⟨rfl, _, _, res_one rfl rfl, ?_, ⟨b6, rfl, rfl⟩⟩
  repeat (first | exact Sub.refl _ | exact Sub.none _ | refine Sub.p0 ?_ | refine Sub.p1 ?_ | refine Sub.p2 ?_ | refine Sub.p3 ?_ | refine Sub.p4 ?_ | refine Sub.p5 ?_ | refine Sub.p6 ?_ | refine Sub.drop ?_)

theorem must_ok (b : Bool) (σ : List Chunk) : FSpecP Try.prog 98 [.val (.bool b)] σ (fun d σ' => b = true ∧ d = .tup [] ∧ σ' = σ) (fun ch σ' => b = false ∧ ch = stop ∧ σ' = σ) := by
  refine spec_of_sw Try.func98 rfl ?_
  refine sw_seq ?_
  refine sl_region ?_
  refine sl_mv rfl rfl rfl ?_
  refine sl_not rfl rfl rfl ?_
  refine sl_nil ?_
  refine sw_cond rfl (fun h => ?_) (fun h => ?_)
  · refine sl_region ?_
    refine sl_bd rfl rfl .nil bi_138 zd_138 rfl ?_
    refine sl_mi' rfl rfl ni_138 rfl ?_
    refine sl_panic rfl rfl rfl (fun _ _ r => empty_iface r) (⟨rfl, _, Sub.refl _, ⟨by simpa using h, rfl, rfl⟩⟩)
  · refine sw_skip ?_
    refine ⟨rfl, _, _, res_none rfl, ?_, ⟨by simpa using h, rfl, rfl⟩⟩
    repeat (first | exact Sub.refl _ | exact Sub.none _ | refine Sub.p0 ?_ | refine Sub.p1 ?_ | refine Sub.p2 ?_ | refine Sub.p3 ?_ | refine Sub.p4 ?_ | refine Sub.p5 ?_ | refine Sub.p6 ?_ | refine Sub.drop ?_)

end Go.Proofs.Ytioechdfghglhaa
