/- Walks: printed by a program of this session out of its script CodeI. -/
import Derived.Test.YtioechdfghglhaaSlT
import Derived.Test.YtioechdfghglhaaP7
import Derived.Test.YtioechdfghglhaaCodeH
namespace Go.Proofs.Ytioechdfghglhaa
set_option linter.unusedVariables false
set_option linter.unusedSimpArgs false
set_option maxRecDepth 4000
set_option maxHeartbeats 4000000
open Go Go.RowKit SL


/-- The document's numbers. -/
theorem xnum_ok (v : Value) (l : List UInt8) (n : Nat) (σ : List Chunk) (hn : n < 18446744073709551616) (hl : l.length + 10 ≤ 100000000) :
    FSpec Try.prog 77 [.own v (l.map byteV), .val (u64V n)] (.spare v 1 :: σ) (fun d σ' => ∃ v', d = .own v' ((l ++ encNum n).map byteV) ∧ σ' = .spare v' 1 :: σ) := by
  refine spec_of_sw Try.func77 rfl ?_
  refine sw_seq ?_
  refine sl_region ?_
  refine sl_as rfl rfl rfl ?_
  refine sl_nil ?_
  refine sw_seq ?_
  refine sw_block ?_
  refine sw_loopw (fun nX sX δX σX => ∃ (x : Nat) (v : Value) (m : List UInt8), (x) = nX ∧ sX = ⟨20, (.cons 0 (.own v (m.map byteV)) (.cons 1 (.val (.int .u64 (x : Int))) .nil))⟩ ∧ δX = [] ∧ σX = .spare v 1 :: σ ∧ x < 18446744073709551616 ∧ m ++ encNum x = l ++ encNum n) ?_ ?_
  · refine ⟨_, _, _, ?_, ?_, n, v, l, rfl, rfl, rfl, rfl, hn, rfl⟩
    · refine ⟨rfl, ?_⟩; repeat (first | exact WkL.nil | refine WkL.cons (Weak.refl _) ?_ | refine WkL.cons (Weak.toV rfl) ?_ | refine WkL.cons (Weak.ref _) ?_ | refine WkL.cons (Weak.rp_agg _) ?_)
    · repeat (first | exact Sub.refl _ | exact Sub.none _ | refine Sub.p0 ?_ | refine Sub.p1 ?_ | refine Sub.p2 ?_ | refine Sub.p3 ?_ | refine Sub.p4 ?_ | refine Sub.p5 ?_ | refine Sub.p6 ?_ | refine Sub.drop ?_)
  · rintro nX sX δX σX ⟨x, v, m, rfl, rfl, rfl, rfl, hx0, hm⟩
    have hml : m.length ≤ 99999999 := by
      have h1 := congrArg List.length hm
      have h2 := encNum_len hn
      have h3 := encNum_pos x
      simp only [List.length_append] at h1
      omega
    refine sw_seq ?_
    refine sw_seq ?_
    refine sl_region ?_
    refine sl_mv rfl rfl rfl ?_
    refine sl_bin rfl rfl rfl rfl rfl ?_
    refine sl_nil ?_
    refine sw_cond rfl (fun hx => ?_) (fun hx => ?_)
    · have hx : 128 ≤ x := by have := of_decide_eq_true hx; omega
      refine sw_skip ?_
      refine sw_block ?_
      refine sw_seq ?_
      refine sl_region ?_
      refine sl_mv rfl rfl rfl ?_
      refine sl_mv rfl rfl rfl ?_
      refine sl_conv_int rfl rfl rfl is_37 u_5 ?_
      refine sl_bin rfl rfl rfl rfl rfl ?_
      refine sl_bs1 rfl rfl (.cons rfl .nil) u_26 sz_5 zs_5 (by decide) rfl rfl rfl rfl ?_
      first
        | refine sl_app rfl rfl rfl rfl u_26 ⟨_, u_26, rfl⟩ el_5 (by repeat (first | exact sized_nil | exact sized_map (fun _ => ⟨rfl, rfl⟩) | refine sized_cons rfl rfl ?_ | refine sized_append ?_ ?_ | assumption)) (by repeat (first | exact sized_nil | exact sized_map (fun _ => ⟨rfl, rfl⟩) | refine sized_cons rfl rfl ?_ | refine sized_append ?_ ?_ | assumption)) (by simp; omega) ((by rw [List.map_append]; exact congrArg _ (congrArg (fun z => [z]) (hi_byte x)) : _ = (m ++ [UInt8.ofNat (x % 128 + 128)]).map byteV)) (fun v12 => ?_)
        | (refine sl_f1 ?_; refine sl_app rfl rfl rfl rfl u_26 ⟨_, u_26, rfl⟩ el_5 (by repeat (first | exact sized_nil | exact sized_map (fun _ => ⟨rfl, rfl⟩) | refine sized_cons rfl rfl ?_ | refine sized_append ?_ ?_ | assumption)) (by repeat (first | exact sized_nil | exact sized_map (fun _ => ⟨rfl, rfl⟩) | refine sized_cons rfl rfl ?_ | refine sized_append ?_ ?_ | assumption)) (by simp; omega) ((by rw [List.map_append]; exact congrArg _ (congrArg (fun z => [z]) (hi_byte x)) : _ = (m ++ [UInt8.ofNat (x % 128 + 128)]).map byteV)) (fun v12 => ?_))
        | (refine sl_f2 ?_; refine sl_app rfl rfl rfl rfl u_26 ⟨_, u_26, rfl⟩ el_5 (by repeat (first | exact sized_nil | exact sized_map (fun _ => ⟨rfl, rfl⟩) | refine sized_cons rfl rfl ?_ | refine sized_append ?_ ?_ | assumption)) (by repeat (first | exact sized_nil | exact sized_map (fun _ => ⟨rfl, rfl⟩) | refine sized_cons rfl rfl ?_ | refine sized_append ?_ ?_ | assumption)) (by simp; omega) ((by rw [List.map_append]; exact congrArg _ (congrArg (fun z => [z]) (hi_byte x)) : _ = (m ++ [UInt8.ofNat (x % 128 + 128)]).map byteV)) (fun v12 => ?_))
        | (refine sl_f3 ?_; refine sl_app rfl rfl rfl rfl u_26 ⟨_, u_26, rfl⟩ el_5 (by repeat (first | exact sized_nil | exact sized_map (fun _ => ⟨rfl, rfl⟩) | refine sized_cons rfl rfl ?_ | refine sized_append ?_ ?_ | assumption)) (by repeat (first | exact sized_nil | exact sized_map (fun _ => ⟨rfl, rfl⟩) | refine sized_cons rfl rfl ?_ | refine sized_append ?_ ?_ | assumption)) (by simp; omega) ((by rw [List.map_append]; exact congrArg _ (congrArg (fun z => [z]) (hi_byte x)) : _ = (m ++ [UInt8.ofNat (x % 128 + 128)]).map byteV)) (fun v12 => ?_))
        | (refine sl_f4 ?_; refine sl_app rfl rfl rfl rfl u_26 ⟨_, u_26, rfl⟩ el_5 (by repeat (first | exact sized_nil | exact sized_map (fun _ => ⟨rfl, rfl⟩) | refine sized_cons rfl rfl ?_ | refine sized_append ?_ ?_ | assumption)) (by repeat (first | exact sized_nil | exact sized_map (fun _ => ⟨rfl, rfl⟩) | refine sized_cons rfl rfl ?_ | refine sized_append ?_ ?_ | assumption)) (by simp; omega) ((by rw [List.map_append]; exact congrArg _ (congrArg (fun z => [z]) (hi_byte x)) : _ = (m ++ [UInt8.ofNat (x % 128 + 128)]).map byteV)) (fun v12 => ?_))
        | (refine sl_f5 ?_; refine sl_app rfl rfl rfl rfl u_26 ⟨_, u_26, rfl⟩ el_5 (by repeat (first | exact sized_nil | exact sized_map (fun _ => ⟨rfl, rfl⟩) | refine sized_cons rfl rfl ?_ | refine sized_append ?_ ?_ | assumption)) (by repeat (first | exact sized_nil | exact sized_map (fun _ => ⟨rfl, rfl⟩) | refine sized_cons rfl rfl ?_ | refine sized_append ?_ ?_ | assumption)) (by simp; omega) ((by rw [List.map_append]; exact congrArg _ (congrArg (fun z => [z]) (hi_byte x)) : _ = (m ++ [UInt8.ofNat (x % 128 + 128)]).map byteV)) (fun v12 => ?_))
        | (refine sl_f6 ?_; refine sl_app rfl rfl rfl rfl u_26 ⟨_, u_26, rfl⟩ el_5 (by repeat (first | exact sized_nil | exact sized_map (fun _ => ⟨rfl, rfl⟩) | refine sized_cons rfl rfl ?_ | refine sized_append ?_ ?_ | assumption)) (by repeat (first | exact sized_nil | exact sized_map (fun _ => ⟨rfl, rfl⟩) | refine sized_cons rfl rfl ?_ | refine sized_append ?_ ?_ | assumption)) (by simp; omega) ((by rw [List.map_append]; exact congrArg _ (congrArg (fun z => [z]) (hi_byte x)) : _ = (m ++ [UInt8.ofNat (x % 128 + 128)]).map byteV)) (fun v12 => ?_))
      refine sl_as rfl rfl rfl ?_
      refine sl_nil ?_
      refine sl_region ?_
      refine sl_mv rfl rfl rfl ?_
      refine sl_shr rfl rfl rfl rfl (by decide) ?_
      refine sl_set 14 (.val (.int .u64 ((x / 128 : Nat) : Int))) (shr7 x) ?_
      refine sl_as rfl rfl rfl ?_
      refine sl_nil ?_
      refine ⟨_, by omega, _, _, ?_, ?_, x / 128, v12, m ++ [UInt8.ofNat (x % 128 + 128)], rfl, rfl, rfl, rfl, by omega, by rw [← hm, encNum_ge hx]; simp⟩
      · refine ⟨rfl, ?_⟩; repeat (first | exact WkL.nil | refine WkL.cons (Weak.refl _) ?_ | refine WkL.cons (Weak.toV rfl) ?_ | refine WkL.cons (Weak.ref _) ?_ | refine WkL.cons (Weak.rp_agg _) ?_)
      · repeat (first | exact Sub.refl _ | exact Sub.none _ | refine Sub.p0 ?_ | refine Sub.p1 ?_ | refine Sub.p2 ?_ | refine Sub.p3 ?_ | refine Sub.p4 ?_ | refine Sub.p5 ?_ | refine Sub.p6 ?_ | refine Sub.drop ?_)
    · have hx : x < 128 := by have := of_decide_eq_false hx; omega
      refine sw_exit ?_
      refine sw_seq ?_
      refine sl_region ?_
      refine sl_mv rfl rfl rfl ?_
      refine sl_mv rfl rfl rfl ?_
      refine sl_conv_int rfl rfl rfl is_37 u_5 ?_
      refine sl_bs1 rfl rfl (.cons rfl .nil) u_26 sz_5 zs_5 (by decide) rfl rfl rfl rfl ?_
      first
        | refine sl_app rfl rfl rfl rfl u_26 ⟨_, u_26, rfl⟩ el_5 (by repeat (first | exact sized_nil | exact sized_map (fun _ => ⟨rfl, rfl⟩) | refine sized_cons rfl rfl ?_ | refine sized_append ?_ ?_ | assumption)) (by repeat (first | exact sized_nil | exact sized_map (fun _ => ⟨rfl, rfl⟩) | refine sized_cons rfl rfl ?_ | refine sized_append ?_ ?_ | assumption)) (by simp; omega) ((by rw [List.map_append]; exact congrArg _ (congrArg (fun z => [z]) (lo_byte x)) : _ = (m ++ [UInt8.ofNat x]).map byteV)) (fun v19 => ?_)
        | (refine sl_f1 ?_; refine sl_app rfl rfl rfl rfl u_26 ⟨_, u_26, rfl⟩ el_5 (by repeat (first | exact sized_nil | exact sized_map (fun _ => ⟨rfl, rfl⟩) | refine sized_cons rfl rfl ?_ | refine sized_append ?_ ?_ | assumption)) (by repeat (first | exact sized_nil | exact sized_map (fun _ => ⟨rfl, rfl⟩) | refine sized_cons rfl rfl ?_ | refine sized_append ?_ ?_ | assumption)) (by simp; omega) ((by rw [List.map_append]; exact congrArg _ (congrArg (fun z => [z]) (lo_byte x)) : _ = (m ++ [UInt8.ofNat x]).map byteV)) (fun v19 => ?_))
        | (refine sl_f2 ?_; refine sl_app rfl rfl rfl rfl u_26 ⟨_, u_26, rfl⟩ el_5 (by repeat (first | exact sized_nil | exact sized_map (fun _ => ⟨rfl, rfl⟩) | refine sized_cons rfl rfl ?_ | refine sized_append ?_ ?_ | assumption)) (by repeat (first | exact sized_nil | exact sized_map (fun _ => ⟨rfl, rfl⟩) | refine sized_cons rfl rfl ?_ | refine sized_append ?_ ?_ | assumption)) (by simp; omega) ((by rw [List.map_append]; exact congrArg _ (congrArg (fun z => [z]) (lo_byte x)) : _ = (m ++ [UInt8.ofNat x]).map byteV)) (fun v19 => ?_))
        | (refine sl_f3 ?_; refine sl_app rfl rfl rfl rfl u_26 ⟨_, u_26, rfl⟩ el_5 (by repeat (first | exact sized_nil | exact sized_map (fun _ => ⟨rfl, rfl⟩) | refine sized_cons rfl rfl ?_ | refine sized_append ?_ ?_ | assumption)) (by repeat (first | exact sized_nil | exact sized_map (fun _ => ⟨rfl, rfl⟩) | refine sized_cons rfl rfl ?_ | refine sized_append ?_ ?_ | assumption)) (by simp; omega) ((by rw [List.map_append]; exact congrArg _ (congrArg (fun z => [z]) (lo_byte x)) : _ = (m ++ [UInt8.ofNat x]).map byteV)) (fun v19 => ?_))
        | (refine sl_f4 ?_; refine sl_app rfl rfl rfl rfl u_26 ⟨_, u_26, rfl⟩ el_5 (by repeat (first | exact sized_nil | exact sized_map (fun _ => ⟨rfl, rfl⟩) | refine sized_cons rfl rfl ?_ | refine sized_append ?_ ?_ | assumption)) (by repeat (first | exact sized_nil | exact sized_map (fun _ => ⟨rfl, rfl⟩) | refine sized_cons rfl rfl ?_ | refine sized_append ?_ ?_ | assumption)) (by simp; omega) ((by rw [List.map_append]; exact congrArg _ (congrArg (fun z => [z]) (lo_byte x)) : _ = (m ++ [UInt8.ofNat x]).map byteV)) (fun v19 => ?_))
        | (refine sl_f5 ?_; refine sl_app rfl rfl rfl rfl u_26 ⟨_, u_26, rfl⟩ el_5 (by repeat (first | exact sized_nil | exact sized_map (fun _ => ⟨rfl, rfl⟩) | refine sized_cons rfl rfl ?_ | refine sized_append ?_ ?_ | assumption)) (by repeat (first | exact sized_nil | exact sized_map (fun _ => ⟨rfl, rfl⟩) | refine sized_cons rfl rfl ?_ | refine sized_append ?_ ?_ | assumption)) (by simp; omega) ((by rw [List.map_append]; exact congrArg _ (congrArg (fun z => [z]) (lo_byte x)) : _ = (m ++ [UInt8.ofNat x]).map byteV)) (fun v19 => ?_))
        | (refine sl_f6 ?_; refine sl_app rfl rfl rfl rfl u_26 ⟨_, u_26, rfl⟩ el_5 (by repeat (first | exact sized_nil | exact sized_map (fun _ => ⟨rfl, rfl⟩) | refine sized_cons rfl rfl ?_ | refine sized_append ?_ ?_ | assumption)) (by repeat (first | exact sized_nil | exact sized_map (fun _ => ⟨rfl, rfl⟩) | refine sized_cons rfl rfl ?_ | refine sized_append ?_ ?_ | assumption)) (by simp; omega) ((by rw [List.map_append]; exact congrArg _ (congrArg (fun z => [z]) (lo_byte x)) : _ = (m ++ [UInt8.ofNat x]).map byteV)) (fun v19 => ?_))
      refine sl_as rfl rfl rfl ?_
      refine sl_nil ?_
      have e : m ++ [UInt8.ofNat x] = l ++ encNum n := by rw [← hm, encNum_lt hx]
      rw [e]
      refine sw_ret ⟨rfl, _, _, res_one rfl rfl, ?_, ⟨v19, rfl, rfl⟩⟩
      repeat (first | exact Sub.refl _ | exact Sub.none _ | refine Sub.p0 ?_ | refine Sub.p1 ?_ | refine Sub.p2 ?_ | refine Sub.p3 ?_ | refine Sub.p4 ?_ | refine Sub.p5 ?_ | refine Sub.p6 ?_ | refine Sub.drop ?_)

/-- The document's numbers with signs. -/
theorem xint_ok (v : Value) (l : List UInt8) (n : Int) (σ : List Chunk) (h : isI64 n) (hl : l.length + 10 ≤ 100000000) :
    FSpec Try.prog 78 [.own v (l.map byteV), .val (i64V n)] (.spare v 1 :: σ) (fun d σ' => ∃ v', d = .own v' ((l ++ encInt n).map byteV) ∧ σ' = .spare v' 1 :: σ) := by
  have h' := h
  unfold isI64 at h'
  refine spec_of_sw Try.func78 rfl ?_
  refine sw_seq ?_
  refine sl_region ?_
  refine sl_as rfl rfl rfl ?_
  refine sl_nil ?_
  refine sw_seq ?_
  refine sw_seq ?_
  refine sl_region ?_
  refine sl_mv rfl rfl rfl ?_
  refine sl_bin rfl rfl rfl rfl rfl ?_
  refine sl_nil ?_
  refine sw_cond rfl (fun hn => ?_) (fun hn => ?_)
  · have hn : n < 0 := of_decide_eq_true hn
    refine sw_seq ?_
    refine sl_region ?_
    refine sl_mv rfl rfl rfl ?_
    refine sl_mv rfl rfl rfl ?_
    first
      | refine sl_inc rfl rfl rfl rfl (by omega) ?_
      | refine sl_add rfl rfl rfl rfl (by constructor <;> omega) ?_
      | refine sl_bin rfl rfl rfl rfl rfl ?_
    refine sl_neg rfl rfl rfl ?_
    refine sl_conv_int rfl rfl rfl is_2 u_37 ?_
    refine sl_bin rfl rfl rfl rfl rfl ?_
    refine sl_bin rfl rfl rfl rfl rfl ?_
    refine sl_set 13 (.val (u64V (zig n))) (zig_neg h hn) ?_
    refine sl_callf rfl rfl cal_77 (xnum_ok v l (zig n) σ (zig_lt h) hl) ?_ ?_ ?_ (fun _ _ h => h.elim)
    · repeat (first | exact Weaks.nil | refine Weaks.cons (Weak.junk _) ?_ | refine Weaks.cons (Weak.refl _) ?_ | refine Weaks.cons (Weak.toV rfl) ?_ | refine Weaks.cons (Weak.ref _) ?_ | refine Weaks.cons (Weak.rp_agg _) ?_)
    · repeat (first | exact Sub.refl _ | exact Sub.none _ | refine Sub.p0 ?_ | refine Sub.p1 ?_ | refine Sub.p2 ?_ | refine Sub.p3 ?_ | refine Sub.p4 ?_ | refine Sub.p5 ?_ | refine Sub.p6 ?_ | refine Sub.drop ?_)
    rintro _ _ ⟨v2, rfl, rfl⟩
    refine sl_as rfl rfl rfl ?_
    refine sl_nil ?_
    refine sw_ret ⟨rfl, _, _, res_one rfl rfl, ?_, ⟨v2, rfl, rfl⟩⟩
    repeat (first | exact Sub.refl _ | exact Sub.none _ | refine Sub.p0 ?_ | refine Sub.p1 ?_ | refine Sub.p2 ?_ | refine Sub.p3 ?_ | refine Sub.p4 ?_ | refine Sub.p5 ?_ | refine Sub.p6 ?_ | refine Sub.drop ?_)
  · have hn : ¬ n < 0 := of_decide_eq_false hn
    refine sw_skip ?_
    refine sw_seq ?_
    refine sl_region ?_
    refine sl_mv rfl rfl rfl ?_
    refine sl_mv rfl rfl rfl ?_
    refine sl_conv_int rfl rfl rfl is_2 u_37 ?_
    refine sl_bin rfl rfl rfl rfl rfl ?_
    refine sl_set 18 (.val (u64V (zig n))) (zig_pos h hn) ?_
    refine sl_callf rfl rfl cal_77 (xnum_ok v l (zig n) σ (zig_lt h) hl) ?_ ?_ ?_ (fun _ _ h => h.elim)
    · repeat (first | exact Weaks.nil | refine Weaks.cons (Weak.junk _) ?_ | refine Weaks.cons (Weak.refl _) ?_ | refine Weaks.cons (Weak.toV rfl) ?_ | refine Weaks.cons (Weak.ref _) ?_ | refine Weaks.cons (Weak.rp_agg _) ?_)
    · repeat (first | exact Sub.refl _ | exact Sub.none _ | refine Sub.p0 ?_ | refine Sub.p1 ?_ | refine Sub.p2 ?_ | refine Sub.p3 ?_ | refine Sub.p4 ?_ | refine Sub.p5 ?_ | refine Sub.p6 ?_ | refine Sub.drop ?_)
    rintro _ _ ⟨v2, rfl, rfl⟩
    refine sl_as rfl rfl rfl ?_
    refine sl_nil ?_
    refine sw_ret ⟨rfl, _, _, res_one rfl rfl, ?_, ⟨v2, rfl, rfl⟩⟩
    repeat (first | exact Sub.refl _ | exact Sub.none _ | refine Sub.p0 ?_ | refine Sub.p1 ?_ | refine Sub.p2 ?_ | refine Sub.p3 ?_ | refine Sub.p4 ?_ | refine Sub.p5 ?_ | refine Sub.p6 ?_ | refine Sub.drop ?_)

/-- The document's texts. -/
theorem xtext_ok (v : Value) (l : List UInt8) (s : List UInt8) (σ : List Chunk) (hs : s.length ≤ 1000000) (hl : l.length + 1000010 ≤ 100000000) :
    FSpec Try.prog 39 [.own v (l.map byteV), .val (strV s)] (.spare v 1 :: σ) (fun d σ' => ∃ v', d = .own v' ((l ++ encText s).map byteV) ∧ σ' = .spare v' 1 :: σ) := by
  refine spec_of_sw Try.func39 rfl ?_
  refine sw_seq ?_
  refine sl_region ?_
  refine sl_as rfl rfl rfl ?_
  refine sl_nil ?_
  refine sw_seq ?_
  refine sl_region ?_
  refine sl_mv rfl rfl rfl ?_
  refine sl_mv rfl rfl rfl ?_
  refine sl_len_str rfl rfl rfl u_9 ?_
  refine sl_conv_int rfl rfl rfl is_3 u_37 ?_
  refine sl_set 8 (.val (u64V s.length)) (congrArg (fun z => D.val (.int .u64 z)) (wrapped_u64 _ (by omega))) ?_
  have hel := encNum_len (n := s.length) (by omega)
  refine sl_callf rfl rfl cal_77 (xnum_ok v l s.length σ (by omega) (by omega)) ?_ ?_ ?_ (fun _ _ h => h.elim)
  · repeat (first | exact Weaks.nil | refine Weaks.cons (Weak.junk _) ?_ | refine Weaks.cons (Weak.refl _) ?_ | refine Weaks.cons (Weak.toV rfl) ?_ | refine Weaks.cons (Weak.ref _) ?_ | refine Weaks.cons (Weak.rp_agg _) ?_)
  · repeat (first | exact Sub.refl _ | exact Sub.none _ | refine Sub.p0 ?_ | refine Sub.p1 ?_ | refine Sub.p2 ?_ | refine Sub.p3 ?_ | refine Sub.p4 ?_ | refine Sub.p5 ?_ | refine Sub.p6 ?_ | refine Sub.drop ?_)
  rintro _ _ ⟨v2, rfl, rfl⟩
  refine sl_mv rfl rfl rfl ?_
  first
    | refine sl_app_str rfl rfl rfl rfl u_26 u_9 el_5 (by repeat (first | exact sized_nil | exact sized_map (fun _ => ⟨rfl, rfl⟩) | refine sized_cons rfl rfl ?_ | refine sized_append ?_ ?_ | assumption)) (by simp; omega) ((by rw [← List.map_append] : _ = ((l ++ encNum s.length) ++ s).map byteV)) (fun v11 => ?_)
    | (refine sl_f1 ?_; refine sl_app_str rfl rfl rfl rfl u_26 u_9 el_5 (by repeat (first | exact sized_nil | exact sized_map (fun _ => ⟨rfl, rfl⟩) | refine sized_cons rfl rfl ?_ | refine sized_append ?_ ?_ | assumption)) (by simp; omega) ((by rw [← List.map_append] : _ = ((l ++ encNum s.length) ++ s).map byteV)) (fun v11 => ?_))
    | (refine sl_f2 ?_; refine sl_app_str rfl rfl rfl rfl u_26 u_9 el_5 (by repeat (first | exact sized_nil | exact sized_map (fun _ => ⟨rfl, rfl⟩) | refine sized_cons rfl rfl ?_ | refine sized_append ?_ ?_ | assumption)) (by simp; omega) ((by rw [← List.map_append] : _ = ((l ++ encNum s.length) ++ s).map byteV)) (fun v11 => ?_))
    | (refine sl_f3 ?_; refine sl_app_str rfl rfl rfl rfl u_26 u_9 el_5 (by repeat (first | exact sized_nil | exact sized_map (fun _ => ⟨rfl, rfl⟩) | refine sized_cons rfl rfl ?_ | refine sized_append ?_ ?_ | assumption)) (by simp; omega) ((by rw [← List.map_append] : _ = ((l ++ encNum s.length) ++ s).map byteV)) (fun v11 => ?_))
    | (refine sl_f4 ?_; refine sl_app_str rfl rfl rfl rfl u_26 u_9 el_5 (by repeat (first | exact sized_nil | exact sized_map (fun _ => ⟨rfl, rfl⟩) | refine sized_cons rfl rfl ?_ | refine sized_append ?_ ?_ | assumption)) (by simp; omega) ((by rw [← List.map_append] : _ = ((l ++ encNum s.length) ++ s).map byteV)) (fun v11 => ?_))
    | (refine sl_f5 ?_; refine sl_app_str rfl rfl rfl rfl u_26 u_9 el_5 (by repeat (first | exact sized_nil | exact sized_map (fun _ => ⟨rfl, rfl⟩) | refine sized_cons rfl rfl ?_ | refine sized_append ?_ ?_ | assumption)) (by simp; omega) ((by rw [← List.map_append] : _ = ((l ++ encNum s.length) ++ s).map byteV)) (fun v11 => ?_))
    | (refine sl_f6 ?_; refine sl_app_str rfl rfl rfl rfl u_26 u_9 el_5 (by repeat (first | exact sized_nil | exact sized_map (fun _ => ⟨rfl, rfl⟩) | refine sized_cons rfl rfl ?_ | refine sized_append ?_ ?_ | assumption)) (by simp; omega) ((by rw [← List.map_append] : _ = ((l ++ encNum s.length) ++ s).map byteV)) (fun v11 => ?_))
  refine sl_as rfl rfl rfl ?_
  refine sl_nil ?_
  have e : (l ++ encNum s.length) ++ s = l ++ encText s := by simp [encText]
  rw [e]
  refine sw_ret ⟨rfl, _, _, res_one rfl rfl, ?_, ⟨v11, rfl, rfl⟩⟩
  repeat (first | exact Sub.refl _ | exact Sub.none _ | refine Sub.p0 ?_ | refine Sub.p1 ?_ | refine Sub.p2 ?_ | refine Sub.p3 ?_ | refine Sub.p4 ?_ | refine Sub.p5 ?_ | refine Sub.p6 ?_ | refine Sub.drop ?_)

/-- The document's truths. -/
theorem xbool_ok (v : Value) (l : List UInt8) (b : Bool) (σ : List Chunk) (hl : l.length + 10 ≤ 100000000) :
    FSpec Try.prog 79 [.own v (l.map byteV), .val (boolV b)] (.spare v 1 :: σ) (fun d σ' => ∃ v', d = .own v' ((l ++ encBool b).map byteV) ∧ σ' = .spare v' 1 :: σ) := by
  refine spec_of_sw Try.func79 rfl ?_
  refine sw_seq ?_
  refine sl_region ?_
  refine sl_as rfl rfl rfl ?_
  refine sl_nil ?_
  refine sw_seq ?_
  refine sw_seq ?_
  refine sl_region ?_
  refine sl_mv rfl rfl rfl ?_
  refine sl_nil ?_
  refine sw_cond rfl (fun hb => ?_) (fun hb => ?_)
  · refine sw_seq ?_
    refine sl_region ?_
    refine sl_mv rfl rfl rfl ?_
    refine sl_bs1 rfl rfl (.cons rfl .nil) u_26 sz_5 zs_5 (by decide) rfl rfl rfl rfl ?_
    first
      | refine sl_app rfl rfl rfl rfl u_26 ⟨_, u_26, rfl⟩ el_5 (by repeat (first | exact sized_nil | exact sized_map (fun _ => ⟨rfl, rfl⟩) | refine sized_cons rfl rfl ?_ | refine sized_append ?_ ?_ | assumption)) (by repeat (first | exact sized_nil | exact sized_map (fun _ => ⟨rfl, rfl⟩) | refine sized_cons rfl rfl ?_ | refine sized_append ?_ ?_ | assumption)) (by simp; omega) ((by rw [show b = true from hb, encBool_eq, List.map_append]; rfl : _ = (l ++ encBool b).map byteV)) (fun v8 => ?_)
      | (refine sl_f1 ?_; refine sl_app rfl rfl rfl rfl u_26 ⟨_, u_26, rfl⟩ el_5 (by repeat (first | exact sized_nil | exact sized_map (fun _ => ⟨rfl, rfl⟩) | refine sized_cons rfl rfl ?_ | refine sized_append ?_ ?_ | assumption)) (by repeat (first | exact sized_nil | exact sized_map (fun _ => ⟨rfl, rfl⟩) | refine sized_cons rfl rfl ?_ | refine sized_append ?_ ?_ | assumption)) (by simp; omega) ((by rw [show b = true from hb, encBool_eq, List.map_append]; rfl : _ = (l ++ encBool b).map byteV)) (fun v8 => ?_))
      | (refine sl_f2 ?_; refine sl_app rfl rfl rfl rfl u_26 ⟨_, u_26, rfl⟩ el_5 (by repeat (first | exact sized_nil | exact sized_map (fun _ => ⟨rfl, rfl⟩) | refine sized_cons rfl rfl ?_ | refine sized_append ?_ ?_ | assumption)) (by repeat (first | exact sized_nil | exact sized_map (fun _ => ⟨rfl, rfl⟩) | refine sized_cons rfl rfl ?_ | refine sized_append ?_ ?_ | assumption)) (by simp; omega) ((by rw [show b = true from hb, encBool_eq, List.map_append]; rfl : _ = (l ++ encBool b).map byteV)) (fun v8 => ?_))
      | (refine sl_f3 ?_; refine sl_app rfl rfl rfl rfl u_26 ⟨_, u_26, rfl⟩ el_5 (by repeat (first | exact sized_nil | exact sized_map (fun _ => ⟨rfl, rfl⟩) | refine sized_cons rfl rfl ?_ | refine sized_append ?_ ?_ | assumption)) (by repeat (first | exact sized_nil | exact sized_map (fun _ => ⟨rfl, rfl⟩) | refine sized_cons rfl rfl ?_ | refine sized_append ?_ ?_ | assumption)) (by simp; omega) ((by rw [show b = true from hb, encBool_eq, List.map_append]; rfl : _ = (l ++ encBool b).map byteV)) (fun v8 => ?_))
      | (refine sl_f4 ?_; refine sl_app rfl rfl rfl rfl u_26 ⟨_, u_26, rfl⟩ el_5 (by repeat (first | exact sized_nil | exact sized_map (fun _ => ⟨rfl, rfl⟩) | refine sized_cons rfl rfl ?_ | refine sized_append ?_ ?_ | assumption)) (by repeat (first | exact sized_nil | exact sized_map (fun _ => ⟨rfl, rfl⟩) | refine sized_cons rfl rfl ?_ | refine sized_append ?_ ?_ | assumption)) (by simp; omega) ((by rw [show b = true from hb, encBool_eq, List.map_append]; rfl : _ = (l ++ encBool b).map byteV)) (fun v8 => ?_))
      | (refine sl_f5 ?_; refine sl_app rfl rfl rfl rfl u_26 ⟨_, u_26, rfl⟩ el_5 (by repeat (first | exact sized_nil | exact sized_map (fun _ => ⟨rfl, rfl⟩) | refine sized_cons rfl rfl ?_ | refine sized_append ?_ ?_ | assumption)) (by repeat (first | exact sized_nil | exact sized_map (fun _ => ⟨rfl, rfl⟩) | refine sized_cons rfl rfl ?_ | refine sized_append ?_ ?_ | assumption)) (by simp; omega) ((by rw [show b = true from hb, encBool_eq, List.map_append]; rfl : _ = (l ++ encBool b).map byteV)) (fun v8 => ?_))
      | (refine sl_f6 ?_; refine sl_app rfl rfl rfl rfl u_26 ⟨_, u_26, rfl⟩ el_5 (by repeat (first | exact sized_nil | exact sized_map (fun _ => ⟨rfl, rfl⟩) | refine sized_cons rfl rfl ?_ | refine sized_append ?_ ?_ | assumption)) (by repeat (first | exact sized_nil | exact sized_map (fun _ => ⟨rfl, rfl⟩) | refine sized_cons rfl rfl ?_ | refine sized_append ?_ ?_ | assumption)) (by simp; omega) ((by rw [show b = true from hb, encBool_eq, List.map_append]; rfl : _ = (l ++ encBool b).map byteV)) (fun v8 => ?_))
    refine sl_as rfl rfl rfl ?_
    refine sl_nil ?_
    refine sw_ret ⟨rfl, _, _, res_one rfl rfl, ?_, ⟨v8, rfl, rfl⟩⟩
    repeat (first | exact Sub.refl _ | exact Sub.none _ | refine Sub.p0 ?_ | refine Sub.p1 ?_ | refine Sub.p2 ?_ | refine Sub.p3 ?_ | refine Sub.p4 ?_ | refine Sub.p5 ?_ | refine Sub.p6 ?_ | refine Sub.drop ?_)
  · refine sw_skip ?_
    refine sw_seq ?_
    refine sl_region ?_
    refine sl_mv rfl rfl rfl ?_
    refine sl_bs1 rfl rfl (.cons rfl .nil) u_26 sz_5 zs_5 (by decide) rfl rfl rfl rfl ?_
    first
      | refine sl_app rfl rfl rfl rfl u_26 ⟨_, u_26, rfl⟩ el_5 (by repeat (first | exact sized_nil | exact sized_map (fun _ => ⟨rfl, rfl⟩) | refine sized_cons rfl rfl ?_ | refine sized_append ?_ ?_ | assumption)) (by repeat (first | exact sized_nil | exact sized_map (fun _ => ⟨rfl, rfl⟩) | refine sized_cons rfl rfl ?_ | refine sized_append ?_ ?_ | assumption)) (by simp; omega) ((by rw [show b = false from hb, encBool_eq, List.map_append]; rfl : _ = (l ++ encBool b).map byteV)) (fun v11 => ?_)
      | (refine sl_f1 ?_; refine sl_app rfl rfl rfl rfl u_26 ⟨_, u_26, rfl⟩ el_5 (by repeat (first | exact sized_nil | exact sized_map (fun _ => ⟨rfl, rfl⟩) | refine sized_cons rfl rfl ?_ | refine sized_append ?_ ?_ | assumption)) (by repeat (first | exact sized_nil | exact sized_map (fun _ => ⟨rfl, rfl⟩) | refine sized_cons rfl rfl ?_ | refine sized_append ?_ ?_ | assumption)) (by simp; omega) ((by rw [show b = false from hb, encBool_eq, List.map_append]; rfl : _ = (l ++ encBool b).map byteV)) (fun v11 => ?_))
      | (refine sl_f2 ?_; refine sl_app rfl rfl rfl rfl u_26 ⟨_, u_26, rfl⟩ el_5 (by repeat (first | exact sized_nil | exact sized_map (fun _ => ⟨rfl, rfl⟩) | refine sized_cons rfl rfl ?_ | refine sized_append ?_ ?_ | assumption)) (by repeat (first | exact sized_nil | exact sized_map (fun _ => ⟨rfl, rfl⟩) | refine sized_cons rfl rfl ?_ | refine sized_append ?_ ?_ | assumption)) (by simp; omega) ((by rw [show b = false from hb, encBool_eq, List.map_append]; rfl : _ = (l ++ encBool b).map byteV)) (fun v11 => ?_))
      | (refine sl_f3 ?_; refine sl_app rfl rfl rfl rfl u_26 ⟨_, u_26, rfl⟩ el_5 (by repeat (first | exact sized_nil | exact sized_map (fun _ => ⟨rfl, rfl⟩) | refine sized_cons rfl rfl ?_ | refine sized_append ?_ ?_ | assumption)) (by repeat (first | exact sized_nil | exact sized_map (fun _ => ⟨rfl, rfl⟩) | refine sized_cons rfl rfl ?_ | refine sized_append ?_ ?_ | assumption)) (by simp; omega) ((by rw [show b = false from hb, encBool_eq, List.map_append]; rfl : _ = (l ++ encBool b).map byteV)) (fun v11 => ?_))
      | (refine sl_f4 ?_; refine sl_app rfl rfl rfl rfl u_26 ⟨_, u_26, rfl⟩ el_5 (by repeat (first | exact sized_nil | exact sized_map (fun _ => ⟨rfl, rfl⟩) | refine sized_cons rfl rfl ?_ | refine sized_append ?_ ?_ | assumption)) (by repeat (first | exact sized_nil | exact sized_map (fun _ => ⟨rfl, rfl⟩) | refine sized_cons rfl rfl ?_ | refine sized_append ?_ ?_ | assumption)) (by simp; omega) ((by rw [show b = false from hb, encBool_eq, List.map_append]; rfl : _ = (l ++ encBool b).map byteV)) (fun v11 => ?_))
      | (refine sl_f5 ?_; refine sl_app rfl rfl rfl rfl u_26 ⟨_, u_26, rfl⟩ el_5 (by repeat (first | exact sized_nil | exact sized_map (fun _ => ⟨rfl, rfl⟩) | refine sized_cons rfl rfl ?_ | refine sized_append ?_ ?_ | assumption)) (by repeat (first | exact sized_nil | exact sized_map (fun _ => ⟨rfl, rfl⟩) | refine sized_cons rfl rfl ?_ | refine sized_append ?_ ?_ | assumption)) (by simp; omega) ((by rw [show b = false from hb, encBool_eq, List.map_append]; rfl : _ = (l ++ encBool b).map byteV)) (fun v11 => ?_))
      | (refine sl_f6 ?_; refine sl_app rfl rfl rfl rfl u_26 ⟨_, u_26, rfl⟩ el_5 (by repeat (first | exact sized_nil | exact sized_map (fun _ => ⟨rfl, rfl⟩) | refine sized_cons rfl rfl ?_ | refine sized_append ?_ ?_ | assumption)) (by repeat (first | exact sized_nil | exact sized_map (fun _ => ⟨rfl, rfl⟩) | refine sized_cons rfl rfl ?_ | refine sized_append ?_ ?_ | assumption)) (by simp; omega) ((by rw [show b = false from hb, encBool_eq, List.map_append]; rfl : _ = (l ++ encBool b).map byteV)) (fun v11 => ?_))
    refine sl_as rfl rfl rfl ?_
    refine sl_nil ?_
    refine sw_ret ⟨rfl, _, _, res_one rfl rfl, ?_, ⟨v11, rfl, rfl⟩⟩
    repeat (first | exact Sub.refl _ | exact Sub.none _ | refine Sub.p0 ?_ | refine Sub.p1 ?_ | refine Sub.p2 ?_ | refine Sub.p3 ?_ | refine Sub.p4 ?_ | refine Sub.p5 ?_ | refine Sub.p6 ?_ | refine Sub.drop ?_)

/-- The document's intervals. -/
theorem xival_ok (v : Value) (l : List UInt8) (i : Ivl) (σ : List Chunk) (hi : IvlOk i) (hl : l.length + 30 ≤ 100000000) :
    FSpec Try.prog 99 [.own v (l.map byteV), .val (ivlV i)] (.spare v 1 :: σ) (fun d σ' => ∃ v', d = .own v' ((l ++ encIval i).map byteV) ∧ σ' = .spare v' 1 :: σ) := by
  refine spec_of_sw Try.func99 rfl ?_
  refine sw_seq ?_
  refine sl_region ?_
  refine sl_bx_imm rfl rfl rfl rfl rfl ?_
  refine sl_as rfl rfl rfl ?_
  refine sl_nil ?_
  refine sw_seq ?_
  refine sl_region ?_
  refine sl_mv rfl rfl rfl ?_
  first
    | refine sl_fieldAddr_ptr rfl rfl rfl fo_69_0 ?_
    | refine sl_fieldAddr_rp rfl rfl rfl fo_69_0 ?_
    | refine sl_fieldAddr_ref rfl rfl rfl fo_69_0 ?_
  first
    | refine sl_load_rp1 rfl rfl rfl ag_4 rfl ?_
    | refine sl_load_blk1 rfl rfl rfl ag_4 (by first | exact List.Mem.head _ | exact List.Mem.tail _ (List.Mem.head _) | exact List.Mem.tail _ (List.Mem.tail _ (List.Mem.head _)) | exact List.Mem.tail _ (List.Mem.tail _ (List.Mem.tail _ (List.Mem.head _))) | exact List.Mem.tail _ (List.Mem.tail _ (List.Mem.tail _ (List.Mem.tail _ (List.Mem.head _)))) | exact List.Mem.tail _ (List.Mem.tail _ (List.Mem.tail _ (List.Mem.tail _ (List.Mem.tail _ (List.Mem.head _)))))) rfl ?_
  refine sl_callf rfl rfl cal_79 (xbool_ok v l i.some σ (by omega)) ?_ ?_ ?_ (fun _ _ h => h.elim)
  · repeat (first | exact Weaks.nil | refine Weaks.cons (Weak.junk _) ?_ | refine Weaks.cons (Weak.refl _) ?_ | refine Weaks.cons (Weak.toV rfl) ?_ | refine Weaks.cons (Weak.ref _) ?_ | refine Weaks.cons (Weak.rp_agg _) ?_)
  · repeat (first | exact Sub.refl _ | exact Sub.none _ | refine Sub.p0 ?_ | refine Sub.p1 ?_ | refine Sub.p2 ?_ | refine Sub.p3 ?_ | refine Sub.p4 ?_ | refine Sub.p5 ?_ | refine Sub.p6 ?_ | refine Sub.drop ?_)
  rintro _ _ ⟨v2, rfl, rfl⟩
  have hb := encBool_len1 i.some
  have h1 := encInt_len hi.1
  refine sl_as rfl rfl rfl ?_
  refine sl_nil ?_
  refine sw_seq ?_
  refine sw_seq ?_
  refine sl_region ?_
  first
    | refine sl_fieldAddr_ptr rfl rfl rfl fo_69_0 ?_
    | refine sl_fieldAddr_rp rfl rfl rfl fo_69_0 ?_
    | refine sl_fieldAddr_ref rfl rfl rfl fo_69_0 ?_
  first
    | refine sl_load_rp1 rfl rfl rfl ag_4 rfl ?_
    | refine sl_load_blk1 rfl rfl rfl ag_4 (by first | exact List.Mem.head _ | exact List.Mem.tail _ (List.Mem.head _) | exact List.Mem.tail _ (List.Mem.tail _ (List.Mem.head _)) | exact List.Mem.tail _ (List.Mem.tail _ (List.Mem.tail _ (List.Mem.head _))) | exact List.Mem.tail _ (List.Mem.tail _ (List.Mem.tail _ (List.Mem.tail _ (List.Mem.head _)))) | exact List.Mem.tail _ (List.Mem.tail _ (List.Mem.tail _ (List.Mem.tail _ (List.Mem.tail _ (List.Mem.head _)))))) rfl ?_
  refine sl_nil ?_
  refine sw_cond rfl (fun h => ?_) (fun h => ?_)
  · refine sa_start [] mixed ?_
    refine sa_take 0 rfl rfl (by kernel_rfl) (by kernel_rfl) (by kernel_rfl) exacts_nil (pu_mv rfl rfl) ?_
    first
      | refine sa_take 1 rfl rfl (by kernel_rfl) (by kernel_rfl) (by kernel_rfl) exacts_nil (pu_fieldAddr_ptr rfl rfl fo_69_1) ?_
      | refine sa_take 1 rfl rfl (by kernel_rfl) (by kernel_rfl) (by kernel_rfl) exacts_nil (pu_fieldAddr_rp rfl rfl fo_69_1) ?_
      | refine sa_take 1 rfl rfl (by kernel_rfl) (by kernel_rfl) (by kernel_rfl) exacts_nil (pu_fieldAddr_ref rfl rfl fo_69_1) ?_
    refine sa_take 2 rfl rfl (by kernel_rfl) (by kernel_rfl) (by kernel_rfl) exacts_nil (pu_load_rp1 rfl rfl ag_2 rfl) ?_
    first
      | refine sa_take 4 rfl rfl (by kernel_rfl) (by kernel_rfl) (by kernel_rfl) exacts_nil (pu_fieldAddr_ptr rfl rfl fo_69_2) ?_
      | refine sa_take 4 rfl rfl (by kernel_rfl) (by kernel_rfl) (by kernel_rfl) exacts_nil (pu_fieldAddr_rp rfl rfl fo_69_2) ?_
      | refine sa_take 4 rfl rfl (by kernel_rfl) (by kernel_rfl) (by kernel_rfl) exacts_nil (pu_fieldAddr_ref rfl rfl fo_69_2) ?_
    refine sa_take 5 rfl rfl (by kernel_rfl) (by kernel_rfl) (by kernel_rfl) exacts_nil (pu_load_rp1 rfl rfl ag_2 rfl) ?_
    refine sa_one 3 (by kernel_rfl) rfl ?_
    refine sl_callf rfl rfl cal_78 (xint_ok v2 (l ++ encBool i.some) i.lo σ hi.1 (by rw [List.length_append]; omega)) ?_ ?_ ?_ (fun _ _ h => h.elim)
    · repeat (first | exact Weaks.nil | refine Weaks.cons (Weak.junk _) ?_ | refine Weaks.cons (Weak.refl _) ?_ | refine Weaks.cons (Weak.toV rfl) ?_ | refine Weaks.cons (Weak.ref _) ?_ | refine Weaks.cons (Weak.rp_agg _) ?_)
    · repeat (first | exact Sub.refl _ | exact Sub.none _ | refine Sub.p0 ?_ | refine Sub.p1 ?_ | refine Sub.p2 ?_ | refine Sub.p3 ?_ | refine Sub.p4 ?_ | refine Sub.p5 ?_ | refine Sub.p6 ?_ | refine Sub.drop ?_)
    rintro _ _ ⟨v3, rfl, rfl⟩
    refine sl_nil ⟨exacts_nil, ?_⟩
    refine sa_one 6 (by kernel_rfl) rfl ?_
    refine sl_callf rfl rfl cal_78 (xint_ok v3 (l ++ encBool i.some ++ encInt i.lo) i.hi σ hi.2 (by simp only [List.length_append]; omega)) ?_ ?_ ?_ (fun _ _ h => h.elim)
    · repeat (first | exact Weaks.nil | refine Weaks.cons (Weak.junk _) ?_ | refine Weaks.cons (Weak.refl _) ?_ | refine Weaks.cons (Weak.toV rfl) ?_ | refine Weaks.cons (Weak.ref _) ?_ | refine Weaks.cons (Weak.rp_agg _) ?_)
    · repeat (first | exact Sub.refl _ | exact Sub.none _ | refine Sub.p0 ?_ | refine Sub.p1 ?_ | refine Sub.p2 ?_ | refine Sub.p3 ?_ | refine Sub.p4 ?_ | refine Sub.p5 ?_ | refine Sub.p6 ?_ | refine Sub.drop ?_)
    rintro _ _ ⟨v4, rfl, rfl⟩
    refine sl_nil ⟨exacts_nil, ?_⟩
    have e2 : l ++ encBool i.some ++ encInt i.lo ++ encInt i.hi = l ++ encIval i := by
      unfold encIval; rw [if_pos h]; simp
    rw [e2]
    refine sa_one 7 (by kernel_rfl) rfl ?_
    refine sl_as rfl rfl rfl ?_
    refine sl_nil ⟨exacts_nil, ?_⟩
    refine sa_done (by kernel_rfl) ?_
    refine sw_seq ?_
    refine sl_region ?_
    refine sl_mv rfl rfl rfl ?_
    refine sl_as rfl rfl rfl ?_
    refine sl_nil ?_
    refine sw_ret ⟨rfl, _, _, res_one rfl rfl, ?_, ⟨v4, rfl, rfl⟩⟩
    repeat (first | exact Sub.refl _ | exact Sub.none _ | refine Sub.p0 ?_ | refine Sub.p1 ?_ | refine Sub.p2 ?_ | refine Sub.p3 ?_ | refine Sub.p4 ?_ | refine Sub.p5 ?_ | refine Sub.p6 ?_ | refine Sub.drop ?_)
  · have e2 : l ++ encBool i.some = l ++ encIval i := by
      unfold encIval; rw [if_neg (by rw [show i.some = false from h]; simp)]; simp
    rw [e2]
    refine sw_skip ?_
    refine sw_seq ?_
    refine sl_region ?_
    refine sl_mv rfl rfl rfl ?_
    refine sl_as rfl rfl rfl ?_
    refine sl_nil ?_
    refine sw_ret ⟨rfl, _, _, res_one rfl rfl, ?_, ⟨v2, rfl, rfl⟩⟩
    repeat (first | exact Sub.refl _ | exact Sub.none _ | refine Sub.p0 ?_ | refine Sub.p1 ?_ | refine Sub.p2 ?_ | refine Sub.p3 ?_ | refine Sub.p4 ?_ | refine Sub.p5 ?_ | refine Sub.p6 ?_ | refine Sub.drop ?_)

/-- The document's alarms. -/
theorem xalarms_ok (v : Value) (l : List UInt8) (al : List Alm) (σ : List Chunk) (ha : ∀ a ∈ al, AlmOk a) (hn : al.length ≤ 1000000) (hl : l.length + 20 * al.length + 10 ≤ 100000000) :
    FSpec Try.prog 91 [.own v (l.map byteV), .val (.list (al.map almV))] (.spare v 1 :: σ) (fun d σ' => ∃ v', d = .own v' ((l ++ encAlarms al).map byteV) ∧ σ' = .spare v' 1 :: σ) := by
  refine spec_of_sw Try.func91 rfl ?_
  refine sw_seq ?_
  refine sl_region ?_
  refine sl_as rfl rfl rfl ?_
  refine sl_nil ?_
  refine sw_seq ?_
  refine sl_region ?_
  refine sl_mv rfl rfl rfl ?_
  refine sl_mv rfl rfl rfl ?_
  first
    | refine sl_len rfl rfl rfl ⟨_, u_67⟩ ?_
    | refine sl_len_sl rfl rfl rfl ⟨_, u_67⟩ ?_
  refine sl_conv_int rfl rfl rfl is_3 u_37 ?_
  refine sl_set 9 (.val (u64V al.length)) (len_u64m almV (by omega)) ?_
  refine sl_callf rfl rfl cal_77 (xnum_ok v l al.length σ (by omega) (by omega)) ?_ ?_ ?_ (fun _ _ h => h.elim)
  · repeat (first | exact Weaks.nil | refine Weaks.cons (Weak.junk _) ?_ | refine Weaks.cons (Weak.refl _) ?_ | refine Weaks.cons (Weak.toV rfl) ?_ | refine Weaks.cons (Weak.ref _) ?_ | refine Weaks.cons (Weak.rp_agg _) ?_)
  · repeat (first | exact Sub.refl _ | exact Sub.none _ | refine Sub.p0 ?_ | refine Sub.p1 ?_ | refine Sub.p2 ?_ | refine Sub.p3 ?_ | refine Sub.p4 ?_ | refine Sub.p5 ?_ | refine Sub.p6 ?_ | refine Sub.drop ?_)
  rintro _ _ ⟨v2, rfl, rfl⟩
  have hn1 := encNum_len (n := al.length) (by omega)
  refine sl_as rfl rfl rfl ?_
  refine sl_nil ?_
  refine sw_seq ?_
  refine sw_seq ?_
  refine sl_region ?_
  refine sl_as rfl rfl rfl ?_
  refine sl_nil ?_
  refine sw_block ?_
  refine sw_loopw (fun nX sX δX σX => ∃ (j : Nat) (v : Value) (m : List UInt8), (al.length - j) = nX ∧ sX = ⟨31, (.cons 0 (.own v (m.map byteV)) (.cons 1 (.val (.list (al.map almV))) (.cons 5 (.val (.int .i64 (j : Int))) .nil)))⟩ ∧ δX = [] ∧ σX = .spare v 1 :: σ ∧ j ≤ al.length ∧ m = l ++ encNum al.length ++ (al.take j).flatMap encAlarm) ?_ ?_
  · refine ⟨_, _, _, ?_, ?_, 0, v2, l ++ encNum al.length, rfl, rfl, rfl, rfl, Nat.zero_le _, by simp⟩
    · refine ⟨rfl, ?_⟩; repeat (first | exact WkL.nil | refine WkL.cons (Weak.refl _) ?_ | refine WkL.cons (Weak.toV rfl) ?_ | refine WkL.cons (Weak.ref _) ?_ | refine WkL.cons (Weak.rp_agg _) ?_)
    · repeat (first | exact Sub.refl _ | exact Sub.none _ | refine Sub.p0 ?_ | refine Sub.p1 ?_ | refine Sub.p2 ?_ | refine Sub.p3 ?_ | refine Sub.p4 ?_ | refine Sub.p5 ?_ | refine Sub.p6 ?_ | refine Sub.drop ?_)
  · rintro nX sX δX σX ⟨j, v, m, rfl, rfl, rfl, rfl, hj0, hm⟩
    refine sw_seq ?_
    refine sw_seq ?_
    refine sl_region ?_
    refine sl_mv rfl rfl rfl ?_
    refine sl_mv rfl rfl rfl ?_
    first
      | refine sl_len rfl rfl rfl ⟨_, u_67⟩ ?_
      | refine sl_len_sl rfl rfl rfl ⟨_, u_67⟩ ?_
    refine sl_bin rfl rfl rfl rfl rfl ?_
    refine sl_nil ?_
    refine sw_cond rfl (fun hj => ?_) (fun hj => ?_)
    · have hj : j < al.length := by simpa using hj
      have hao1 := ha al[j] (List.getElem_mem hj)
      have h1 := encInt_len hao1.1
      have hml : m.length + 20 ≤ 100000000 := by
        have := flat_len (f := encAlarm) (c := 20) (ns := al) (fun a h => encAlarm_len (ha a h)) j
        rw [hm]; simp only [List.length_append]; omega
      refine sw_skip ?_
      refine sw_seq ?_
      refine sw_block ?_
      refine sa_start [] mixed ?_
      refine sa_take 0 rfl rfl (by kernel_rfl) (by kernel_rfl) (by kernel_rfl) exacts_nil (pu_mv rfl rfl) ?_
      refine sa_take 1 rfl rfl (by kernel_rfl) (by kernel_rfl) (by kernel_rfl) exacts_nil (pu_mv rfl rfl) ?_
      refine sa_take 2 rfl rfl (by kernel_rfl) (by kernel_rfl) (by kernel_rfl) exacts_nil (pu_mv rfl rfl) ?_
      refine sa_take 3 rfl rfl (by kernel_rfl) (by kernel_rfl) (by kernel_rfl) exacts_nil (pu_indexAddr rfl rfl rfl u_67 sz_86 (by omega) (idx_map hj) rfl) ?_
      first
        | refine sa_take 4 rfl rfl (by kernel_rfl) (by kernel_rfl) (by kernel_rfl) exacts_nil (pu_fieldAddr_ptr rfl rfl fo_86_0) ?_
        | refine sa_take 4 rfl rfl (by kernel_rfl) (by kernel_rfl) (by kernel_rfl) exacts_nil (pu_fieldAddr_rp rfl rfl fo_86_0) ?_
        | refine sa_take 4 rfl rfl (by kernel_rfl) (by kernel_rfl) (by kernel_rfl) exacts_nil (pu_fieldAddr_ref rfl rfl fo_86_0) ?_
      refine sa_take 5 rfl rfl (by kernel_rfl) (by kernel_rfl) (by kernel_rfl) exacts_nil (pu_load_rp1 rfl rfl ag_3 rfl) ?_
      refine sa_take 7 rfl rfl (by kernel_rfl) (by kernel_rfl) (by kernel_rfl) exacts_nil (pu_mv rfl rfl) ?_
      refine sa_take 8 rfl rfl (by kernel_rfl) (by kernel_rfl) (by kernel_rfl) exacts_nil (pu_mv rfl rfl) ?_
      refine sa_take 9 rfl rfl (by kernel_rfl) (by kernel_rfl) (by kernel_rfl) exacts_nil (pu_indexAddr rfl rfl rfl u_67 sz_86 (by omega) (idx_map hj) rfl) ?_
      first
        | refine sa_take 10 rfl rfl (by kernel_rfl) (by kernel_rfl) (by kernel_rfl) exacts_nil (pu_fieldAddr_ptr rfl rfl fo_86_1) ?_
        | refine sa_take 10 rfl rfl (by kernel_rfl) (by kernel_rfl) (by kernel_rfl) exacts_nil (pu_fieldAddr_rp rfl rfl fo_86_1) ?_
        | refine sa_take 10 rfl rfl (by kernel_rfl) (by kernel_rfl) (by kernel_rfl) exacts_nil (pu_fieldAddr_ref rfl rfl fo_86_1) ?_
      refine sa_take 11 rfl rfl (by kernel_rfl) (by kernel_rfl) (by kernel_rfl) exacts_nil (pu_load_rp1 rfl rfl ag_3 rfl) ?_
      refine sa_one 6 (by kernel_rfl) rfl ?_
      refine sl_callf rfl rfl cal_78 (xint_ok v m al[j].pos σ hao1.1 (by omega)) ?_ ?_ ?_ (fun _ _ h => h.elim)
      · repeat (first | exact Weaks.nil | refine Weaks.cons (Weak.junk _) ?_ | refine Weaks.cons (Weak.refl _) ?_ | refine Weaks.cons (Weak.toV rfl) ?_ | refine Weaks.cons (Weak.ref _) ?_ | refine Weaks.cons (Weak.rp_agg _) ?_)
      · repeat (first | exact Sub.refl _ | exact Sub.none _ | refine Sub.p0 ?_ | refine Sub.p1 ?_ | refine Sub.p2 ?_ | refine Sub.p3 ?_ | refine Sub.p4 ?_ | refine Sub.p5 ?_ | refine Sub.p6 ?_ | refine Sub.drop ?_)
      rintro _ _ ⟨v3, rfl, rfl⟩
      refine sl_nil ⟨exacts_nil, ?_⟩
      refine sa_one 12 (by kernel_rfl) rfl ?_
      refine sl_callf rfl rfl cal_78 (xint_ok v3 (m ++ encInt al[j].pos) al[j].kind σ hao1.2 (by rw [List.length_append]; omega)) ?_ ?_ ?_ (fun _ _ h => h.elim)
      · repeat (first | exact Weaks.nil | refine Weaks.cons (Weak.junk _) ?_ | refine Weaks.cons (Weak.refl _) ?_ | refine Weaks.cons (Weak.toV rfl) ?_ | refine Weaks.cons (Weak.ref _) ?_ | refine Weaks.cons (Weak.rp_agg _) ?_)
      · repeat (first | exact Sub.refl _ | exact Sub.none _ | refine Sub.p0 ?_ | refine Sub.p1 ?_ | refine Sub.p2 ?_ | refine Sub.p3 ?_ | refine Sub.p4 ?_ | refine Sub.p5 ?_ | refine Sub.p6 ?_ | refine Sub.drop ?_)
      rintro _ _ ⟨v4, rfl, rfl⟩
      refine sl_nil ⟨exacts_nil, ?_⟩
      refine sa_one 13 (by kernel_rfl) rfl ?_
      refine sl_as rfl rfl rfl ?_
      refine sl_nil ⟨exacts_nil, ?_⟩
      refine sa_done (by kernel_rfl) ?_
      refine sl_region ?_
      refine sl_mv rfl rfl rfl ?_
      first
        | refine sl_inc rfl rfl rfl rfl (by omega) ?_
        | refine sl_add rfl rfl rfl rfl (by constructor <;> omega) ?_
        | refine sl_bin rfl rfl rfl rfl rfl ?_
      refine sl_as rfl rfl rfl ?_
      refine sl_nil ?_
      have e2 : m ++ encInt al[j].pos ++ encInt al[j].kind = l ++ encNum al.length ++ (al.take (j + 1)).flatMap encAlarm := by
        rw [flat_snoc hj, hm]; simp [encAlarm]
      refine ⟨_, by omega, _, _, ?_, ?_, j + 1, v4, _, rfl, rfl, rfl, rfl, by omega, e2⟩
      · refine ⟨rfl, ?_⟩; repeat (first | exact WkL.nil | refine WkL.cons (Weak.refl _) ?_ | refine WkL.cons (Weak.toV rfl) ?_ | refine WkL.cons (Weak.ref _) ?_ | refine WkL.cons (Weak.rp_agg _) ?_)
      · repeat (first | exact Sub.refl _ | exact Sub.none _ | refine Sub.p0 ?_ | refine Sub.p1 ?_ | refine Sub.p2 ?_ | refine Sub.p3 ?_ | refine Sub.p4 ?_ | refine Sub.p5 ?_ | refine Sub.p6 ?_ | refine Sub.drop ?_)
    · have hj : j = al.length := by have h9 : ¬ j < al.length := (by simpa using hj); omega
      subst hj
      rw [List.take_length] at hm
      have e3 : m = l ++ encAlarms al := by rw [hm]; simp [encAlarms]
      subst e3
      refine sw_exit ?_
      refine sw_seq ?_
      refine sl_region ?_
      refine sl_mv rfl rfl rfl ?_
      refine sl_as rfl rfl rfl ?_
      refine sl_nil ?_
      refine sw_ret ⟨rfl, _, _, res_one rfl rfl, ?_, ⟨v, rfl, rfl⟩⟩
      repeat (first | exact Sub.refl _ | exact Sub.none _ | refine Sub.p0 ?_ | refine Sub.p1 ?_ | refine Sub.p2 ?_ | refine Sub.p3 ?_ | refine Sub.p4 ?_ | refine Sub.p5 ?_ | refine Sub.p6 ?_ | refine Sub.drop ?_)

/-- The document's summaries. -/
theorem xsumm_ok (v : Value) (l : List UInt8) (s : Smy) (σ : List Chunk) (hso : SmyOk s) (hsl : SmyLight s) (hl : l.length + 2000000 ≤ 100000000) :
    FSpec Try.prog 80 [.own v (l.map byteV), .val (smyV s)] (.spare v 1 :: σ) (fun d σ' => ∃ v', d = .own v' ((l ++ encSumm s).map byteV) ∧ σ' = .spare v' 1 :: σ) := by
  obtain ⟨hal, hmd, hnm⟩ := hsl
  obtain ⟨hao, hro, hmo⟩ := hso
  have hn1 := encNum_len (n := s.alarms.length) (by omega)
  have hn2 := encNum_len (n := s.mod.length) (by omega)
  have hb := encBool_len1 s.ends
  have hi := encIval_len hro
  have ha1 := flat_allc (f := encAlarm) (c := 20) (ns := s.alarms) (fun a ha => encAlarm_len (hao a ha))
  have ha2 : (encAlarms s.alarms).length ≤ 210 := by unfold encAlarms; rw [List.length_append]; omega
  refine spec_of_sw Try.func80 rfl ?_
  refine sw_seq ?_
  refine sl_region ?_
  refine sl_bx_imm rfl rfl rfl rfl rfl ?_
  refine sl_as rfl rfl rfl ?_
  refine sl_nil ?_
  refine sw_seq ?_
  refine sa_start [] mixed ?_
  refine sa_take 0 rfl rfl (by kernel_rfl) (by kernel_rfl) (by kernel_rfl) exacts_nil (pu_mv rfl rfl) ?_
  first
    | refine sa_take 1 rfl rfl (by kernel_rfl) (by kernel_rfl) (by kernel_rfl) exacts_nil (pu_fieldAddr_ptr rfl rfl fo_72_0) ?_
    | refine sa_take 1 rfl rfl (by kernel_rfl) (by kernel_rfl) (by kernel_rfl) exacts_nil (pu_fieldAddr_rp rfl rfl fo_72_0) ?_
    | refine sa_take 1 rfl rfl (by kernel_rfl) (by kernel_rfl) (by kernel_rfl) exacts_nil (pu_fieldAddr_ref rfl rfl fo_72_0) ?_
  refine sa_take 2 rfl rfl (by kernel_rfl) (by kernel_rfl) (by kernel_rfl) exacts_nil (pu_load_rp1 rfl rfl ag_67 rfl) ?_
  first
    | refine sa_take 4 rfl rfl (by kernel_rfl) (by kernel_rfl) (by kernel_rfl) exacts_nil (pu_fieldAddr_ptr rfl rfl fo_72_1) ?_
    | refine sa_take 4 rfl rfl (by kernel_rfl) (by kernel_rfl) (by kernel_rfl) exacts_nil (pu_fieldAddr_rp rfl rfl fo_72_1) ?_
    | refine sa_take 4 rfl rfl (by kernel_rfl) (by kernel_rfl) (by kernel_rfl) exacts_nil (pu_fieldAddr_ref rfl rfl fo_72_1) ?_
  refine sa_take 5 rfl rfl (by kernel_rfl) (by kernel_rfl) (by kernel_rfl) exacts_nil (pu_load_rp1 rfl rfl ag_4 rfl) ?_
  first
    | refine sa_take 7 rfl rfl (by kernel_rfl) (by kernel_rfl) (by kernel_rfl) exacts_nil (pu_fieldAddr_ptr rfl rfl fo_72_2) ?_
    | refine sa_take 7 rfl rfl (by kernel_rfl) (by kernel_rfl) (by kernel_rfl) exacts_nil (pu_fieldAddr_rp rfl rfl fo_72_2) ?_
    | refine sa_take 7 rfl rfl (by kernel_rfl) (by kernel_rfl) (by kernel_rfl) exacts_nil (pu_fieldAddr_ref rfl rfl fo_72_2) ?_
  refine sa_take 8 rfl rfl (by kernel_rfl) (by kernel_rfl) (by kernel_rfl) exacts_nil (pu_load_rpn rfl rfl ag_69 sz_69 (Nat.le_of_ble_eq_true rfl)) ?_
  refine sa_one 3 (by kernel_rfl) rfl ?_
  refine sl_callf rfl rfl cal_91 (xalarms_ok v l s.alarms σ hao (by omega) (by omega)) ?_ ?_ ?_ (fun _ _ h => h.elim)
  · repeat (first | exact Weaks.nil | refine Weaks.cons (Weak.junk _) ?_ | refine Weaks.cons (Weak.refl _) ?_ | refine Weaks.cons (Weak.toV rfl) ?_ | refine Weaks.cons (Weak.ref _) ?_ | refine Weaks.cons (Weak.rp_agg _) ?_)
  · repeat (first | exact Sub.refl _ | exact Sub.none _ | refine Sub.p0 ?_ | refine Sub.p1 ?_ | refine Sub.p2 ?_ | refine Sub.p3 ?_ | refine Sub.p4 ?_ | refine Sub.p5 ?_ | refine Sub.p6 ?_ | refine Sub.drop ?_)
  rintro _ _ ⟨v2, rfl, rfl⟩
  refine sl_nil ⟨exacts_nil, ?_⟩
  refine sa_one 6 (by kernel_rfl) rfl ?_
  refine sl_callf rfl rfl cal_79 (xbool_ok v2 (l ++ encAlarms s.alarms) s.ends σ (by rw [List.length_append]; omega)) ?_ ?_ ?_ (fun _ _ h => h.elim)
  · repeat (first | exact Weaks.nil | refine Weaks.cons (Weak.junk _) ?_ | refine Weaks.cons (Weak.refl _) ?_ | refine Weaks.cons (Weak.toV rfl) ?_ | refine Weaks.cons (Weak.ref _) ?_ | refine Weaks.cons (Weak.rp_agg _) ?_)
  · repeat (first | exact Sub.refl _ | exact Sub.none _ | refine Sub.p0 ?_ | refine Sub.p1 ?_ | refine Sub.p2 ?_ | refine Sub.p3 ?_ | refine Sub.p4 ?_ | refine Sub.p5 ?_ | refine Sub.p6 ?_ | refine Sub.drop ?_)
  rintro _ _ ⟨v3, rfl, rfl⟩
  refine sl_nil ⟨exacts_nil, ?_⟩
  refine sa_one 9 (by kernel_rfl) rfl ?_
  refine sl_callf rfl rfl cal_99 (xival_ok v3 (l ++ encAlarms s.alarms ++ encBool s.ends) s.ret σ hro (by simp only [List.length_append]; omega)) ?_ ?_ ?_ (fun _ _ h => h.elim)
  · repeat (first | exact Weaks.nil | refine Weaks.cons (Weak.junk _) ?_ | refine Weaks.cons (Weak.refl _) ?_ | refine Weaks.cons (Weak.toV rfl) ?_ | refine Weaks.cons (Weak.ref _) ?_ | refine Weaks.cons (Weak.rp_agg _) ?_)
  · repeat (first | exact Sub.refl _ | exact Sub.none _ | refine Sub.p0 ?_ | refine Sub.p1 ?_ | refine Sub.p2 ?_ | refine Sub.p3 ?_ | refine Sub.p4 ?_ | refine Sub.p5 ?_ | refine Sub.p6 ?_ | refine Sub.drop ?_)
  rintro _ _ ⟨v4, rfl, rfl⟩
  refine sl_nil ⟨exacts_nil, ?_⟩
  refine sa_one 10 (by kernel_rfl) rfl ?_
  refine sl_as rfl rfl rfl ?_
  refine sl_nil ⟨exacts_nil, ?_⟩
  refine sa_done (by kernel_rfl) ?_
  refine sw_seq ?_
  refine sl_region ?_
  refine sl_mv rfl rfl rfl ?_
  first
    | refine sl_fieldAddr_ptr rfl rfl rfl fo_72_3 ?_
    | refine sl_fieldAddr_rp rfl rfl rfl fo_72_3 ?_
    | refine sl_fieldAddr_ref rfl rfl rfl fo_72_3 ?_
  first
    | refine sl_load_rp1 rfl rfl rfl ag_70 rfl ?_
    | refine sl_load_blk1 rfl rfl rfl ag_70 (by first | exact List.Mem.head _ | exact List.Mem.tail _ (List.Mem.head _) | exact List.Mem.tail _ (List.Mem.tail _ (List.Mem.head _)) | exact List.Mem.tail _ (List.Mem.tail _ (List.Mem.tail _ (List.Mem.head _))) | exact List.Mem.tail _ (List.Mem.tail _ (List.Mem.tail _ (List.Mem.tail _ (List.Mem.head _)))) | exact List.Mem.tail _ (List.Mem.tail _ (List.Mem.tail _ (List.Mem.tail _ (List.Mem.tail _ (List.Mem.head _)))))) rfl ?_
  first
    | refine sl_len rfl rfl rfl ⟨_, u_70⟩ ?_
    | refine sl_len_sl rfl rfl rfl ⟨_, u_70⟩ ?_
  refine sl_conv_int rfl rfl rfl is_3 u_37 ?_
  refine sl_set 20 (.val (u64V s.mod.length)) (len_u64m nmdV (by omega)) ?_
  refine sl_callf rfl rfl cal_77 (xnum_ok v4 (l ++ encAlarms s.alarms ++ encBool s.ends ++ encIval s.ret) s.mod.length σ (by omega) (by simp only [List.length_append]; omega)) ?_ ?_ ?_ (fun _ _ h => h.elim)
  · repeat (first | exact Weaks.nil | refine Weaks.cons (Weak.junk _) ?_ | refine Weaks.cons (Weak.refl _) ?_ | refine Weaks.cons (Weak.toV rfl) ?_ | refine Weaks.cons (Weak.ref _) ?_ | refine Weaks.cons (Weak.rp_agg _) ?_)
  · repeat (first | exact Sub.refl _ | exact Sub.none _ | refine Sub.p0 ?_ | refine Sub.p1 ?_ | refine Sub.p2 ?_ | refine Sub.p3 ?_ | refine Sub.p4 ?_ | refine Sub.p5 ?_ | refine Sub.p6 ?_ | refine Sub.drop ?_)
  rintro _ _ ⟨v5, rfl, rfl⟩
  obtain ⟨m3, hm3⟩ : ∃ m3, m3 = l ++ encAlarms s.alarms ++ encBool s.ends ++ encIval s.ret ++ encNum s.mod.length := ⟨_, rfl⟩
  rw [← hm3]
  have hm3l : m3.length ≤ l.length + 252 := by rw [hm3]; simp only [List.length_append]; omega
  refine sl_as rfl rfl rfl ?_
  refine sl_nil ?_
  refine sw_seq ?_
  refine sw_seq ?_
  refine sl_region ?_
  refine sl_as rfl rfl rfl ?_
  refine sl_nil ?_
  refine sw_block ?_
  refine sw_loopw (fun nX sX δX σX => ∃ (j : Nat) (v : Value) (m4 : List UInt8), (s.mod.length - j) = nX ∧ sX = ⟨45, (.cons 0 (.own v (m4.map byteV)) (.cons 3 (.rp (smyCells s)) (.cons 5 (.val (.int .i64 (j : Int))) .nil)))⟩ ∧ δX = [] ∧ σX = .spare v 1 :: σ ∧ j ≤ s.mod.length ∧ m4 = m3 ++ (s.mod.take j).flatMap encNamed) ?_ ?_
  · refine ⟨_, _, _, ?_, ?_, 0, v5, m3, rfl, rfl, rfl, rfl, Nat.zero_le _, by simp⟩
    · refine ⟨rfl, ?_⟩; repeat (first | exact WkL.nil | refine WkL.cons (Weak.refl _) ?_ | refine WkL.cons (Weak.toV rfl) ?_ | refine WkL.cons (Weak.ref _) ?_ | refine WkL.cons (Weak.rp_agg _) ?_)
    · repeat (first | exact Sub.refl _ | exact Sub.none _ | refine Sub.p0 ?_ | refine Sub.p1 ?_ | refine Sub.p2 ?_ | refine Sub.p3 ?_ | refine Sub.p4 ?_ | refine Sub.p5 ?_ | refine Sub.p6 ?_ | refine Sub.drop ?_)
  · rintro nX sX δX σX ⟨j, v, m4, rfl, rfl, rfl, rfl, hj0, hm4⟩
    refine sw_seq ?_
    refine sw_seq ?_
    refine sl_region ?_
    refine sl_mv rfl rfl rfl ?_
    first
      | refine sl_fieldAddr_ptr rfl rfl rfl fo_72_3 ?_
      | refine sl_fieldAddr_rp rfl rfl rfl fo_72_3 ?_
      | refine sl_fieldAddr_ref rfl rfl rfl fo_72_3 ?_
    first
      | refine sl_load_rp1 rfl rfl rfl ag_70 rfl ?_
      | refine sl_load_blk1 rfl rfl rfl ag_70 (by first | exact List.Mem.head _ | exact List.Mem.tail _ (List.Mem.head _) | exact List.Mem.tail _ (List.Mem.tail _ (List.Mem.head _)) | exact List.Mem.tail _ (List.Mem.tail _ (List.Mem.tail _ (List.Mem.head _))) | exact List.Mem.tail _ (List.Mem.tail _ (List.Mem.tail _ (List.Mem.tail _ (List.Mem.head _)))) | exact List.Mem.tail _ (List.Mem.tail _ (List.Mem.tail _ (List.Mem.tail _ (List.Mem.tail _ (List.Mem.head _)))))) rfl ?_
    first
      | refine sl_len rfl rfl rfl ⟨_, u_70⟩ ?_
      | refine sl_len_sl rfl rfl rfl ⟨_, u_70⟩ ?_
    refine sl_bin rfl rfl rfl rfl rfl ?_
    refine sl_nil ?_
    refine sw_cond rfl (fun hj => ?_) (fun hj => ?_)
    · have hj : j < s.mod.length := by simpa using hj
      have hmo1 := hmo s.mod[j] (List.getElem_mem hj)
      have hnm1 := hnm s.mod[j] (List.getElem_mem hj)
      have hm4l : m4.length + 1500000 ≤ 100000000 := by
        have := flat_len (f := encNamed) (c := 81) (ns := s.mod) (fun a ha => encNamed_len (hmo a ha) (hnm a ha)) j
        rw [hm4]; simp only [List.length_append]; omega
      have ht5 := encText_lenc hnm1 (by decide)
      refine sw_skip ?_
      refine sw_seq ?_
      refine sw_block ?_
      refine sa_start [] mixed ?_
      refine sa_take 0 rfl rfl (by kernel_rfl) (by kernel_rfl) (by kernel_rfl) exacts_nil (pu_mv rfl rfl) ?_
      first
        | refine sa_take 1 rfl rfl (by kernel_rfl) (by kernel_rfl) (by kernel_rfl) exacts_nil (pu_fieldAddr_ptr rfl rfl fo_72_3) ?_
        | refine sa_take 1 rfl rfl (by kernel_rfl) (by kernel_rfl) (by kernel_rfl) exacts_nil (pu_fieldAddr_rp rfl rfl fo_72_3) ?_
        | refine sa_take 1 rfl rfl (by kernel_rfl) (by kernel_rfl) (by kernel_rfl) exacts_nil (pu_fieldAddr_ref rfl rfl fo_72_3) ?_
      refine sa_take 2 rfl rfl (by kernel_rfl) (by kernel_rfl) (by kernel_rfl) exacts_nil (pu_load_rp1 rfl rfl ag_70 rfl) ?_
      refine sa_take 3 rfl rfl (by kernel_rfl) (by kernel_rfl) (by kernel_rfl) exacts_nil (pu_mv rfl rfl) ?_
      refine sa_take 4 rfl rfl (by kernel_rfl) (by kernel_rfl) (by kernel_rfl) exacts_nil (pu_indexAddr rfl rfl rfl u_70 sz_127 (by omega) (idx_map hj) rfl) ?_
      first
        | refine sa_take 5 rfl rfl (by kernel_rfl) (by kernel_rfl) (by kernel_rfl) exacts_nil (pu_fieldAddr_ptr rfl rfl fo_127_0) ?_
        | refine sa_take 5 rfl rfl (by kernel_rfl) (by kernel_rfl) (by kernel_rfl) exacts_nil (pu_fieldAddr_rp rfl rfl fo_127_0) ?_
        | refine sa_take 5 rfl rfl (by kernel_rfl) (by kernel_rfl) (by kernel_rfl) exacts_nil (pu_fieldAddr_ref rfl rfl fo_127_0) ?_
      refine sa_take 6 rfl rfl (by kernel_rfl) (by kernel_rfl) (by kernel_rfl) exacts_nil (pu_load_rp1 rfl rfl ag_9 rfl) ?_
      first
        | refine sa_take 8 rfl rfl (by kernel_rfl) (by kernel_rfl) (by kernel_rfl) exacts_nil (pu_fieldAddr_ptr rfl rfl fo_72_3) ?_
        | refine sa_take 8 rfl rfl (by kernel_rfl) (by kernel_rfl) (by kernel_rfl) exacts_nil (pu_fieldAddr_rp rfl rfl fo_72_3) ?_
        | refine sa_take 8 rfl rfl (by kernel_rfl) (by kernel_rfl) (by kernel_rfl) exacts_nil (pu_fieldAddr_ref rfl rfl fo_72_3) ?_
      refine sa_take 9 rfl rfl (by kernel_rfl) (by kernel_rfl) (by kernel_rfl) exacts_nil (pu_load_rp1 rfl rfl ag_70 rfl) ?_
      refine sa_take 10 rfl rfl (by kernel_rfl) (by kernel_rfl) (by kernel_rfl) exacts_nil (pu_mv rfl rfl) ?_
      refine sa_take 11 rfl rfl (by kernel_rfl) (by kernel_rfl) (by kernel_rfl) exacts_nil (pu_indexAddr rfl rfl rfl u_70 sz_127 (by omega) (idx_map hj) rfl) ?_
      first
        | refine sa_take 12 rfl rfl (by kernel_rfl) (by kernel_rfl) (by kernel_rfl) exacts_nil (pu_fieldAddr_ptr rfl rfl fo_127_1) ?_
        | refine sa_take 12 rfl rfl (by kernel_rfl) (by kernel_rfl) (by kernel_rfl) exacts_nil (pu_fieldAddr_rp rfl rfl fo_127_1) ?_
        | refine sa_take 12 rfl rfl (by kernel_rfl) (by kernel_rfl) (by kernel_rfl) exacts_nil (pu_fieldAddr_ref rfl rfl fo_127_1) ?_
      refine sa_take 13 rfl rfl (by kernel_rfl) (by kernel_rfl) (by kernel_rfl) exacts_nil (pu_load_rpn rfl rfl ag_69 sz_69 (Nat.le_of_ble_eq_true rfl)) ?_
      refine sa_one 7 (by kernel_rfl) rfl ?_
      refine sl_callf rfl rfl cal_39 (xtext_ok v m4 s.mod[j].name σ (by omega) (by omega)) ?_ ?_ ?_ (fun _ _ h => h.elim)
      · repeat (first | exact Weaks.nil | refine Weaks.cons (Weak.junk _) ?_ | refine Weaks.cons (Weak.refl _) ?_ | refine Weaks.cons (Weak.toV rfl) ?_ | refine Weaks.cons (Weak.ref _) ?_ | refine Weaks.cons (Weak.rp_agg _) ?_)
      · repeat (first | exact Sub.refl _ | exact Sub.none _ | refine Sub.p0 ?_ | refine Sub.p1 ?_ | refine Sub.p2 ?_ | refine Sub.p3 ?_ | refine Sub.p4 ?_ | refine Sub.p5 ?_ | refine Sub.p6 ?_ | refine Sub.drop ?_)
      rintro _ _ ⟨v6, rfl, rfl⟩
      refine sl_nil ⟨exacts_nil, ?_⟩
      refine sa_one 14 (by kernel_rfl) rfl ?_
      refine sl_callf rfl rfl cal_99 (xival_ok v6 (m4 ++ encText s.mod[j].name) s.mod[j].v σ hmo1 (by rw [List.length_append]; omega)) ?_ ?_ ?_ (fun _ _ h => h.elim)
      · repeat (first | exact Weaks.nil | refine Weaks.cons (Weak.junk _) ?_ | refine Weaks.cons (Weak.refl _) ?_ | refine Weaks.cons (Weak.toV rfl) ?_ | refine Weaks.cons (Weak.ref _) ?_ | refine Weaks.cons (Weak.rp_agg _) ?_)
      · repeat (first | exact Sub.refl _ | exact Sub.none _ | refine Sub.p0 ?_ | refine Sub.p1 ?_ | refine Sub.p2 ?_ | refine Sub.p3 ?_ | refine Sub.p4 ?_ | refine Sub.p5 ?_ | refine Sub.p6 ?_ | refine Sub.drop ?_)
      rintro _ _ ⟨v7, rfl, rfl⟩
      refine sl_nil ⟨exacts_nil, ?_⟩
      refine sa_one 15 (by kernel_rfl) rfl ?_
      refine sl_as rfl rfl rfl ?_
      refine sl_nil ⟨exacts_nil, ?_⟩
      refine sa_done (by kernel_rfl) ?_
      refine sl_region ?_
      refine sl_mv rfl rfl rfl ?_
      first
        | refine sl_inc rfl rfl rfl rfl (by omega) ?_
        | refine sl_add rfl rfl rfl rfl (by constructor <;> omega) ?_
        | refine sl_bin rfl rfl rfl rfl rfl ?_
      refine sl_as rfl rfl rfl ?_
      refine sl_nil ?_
      have e6 : m4 ++ encText s.mod[j].name ++ encIval s.mod[j].v = m3 ++ (s.mod.take (j + 1)).flatMap encNamed := by
        rw [flat_snoc hj, hm4]; simp [encNamed]
      refine ⟨_, by omega, _, _, ?_, ?_, j + 1, v7, _, rfl, rfl, rfl, rfl, by omega, e6⟩
      · refine ⟨rfl, ?_⟩; repeat (first | exact WkL.nil | refine WkL.cons (Weak.refl _) ?_ | refine WkL.cons (Weak.toV rfl) ?_ | refine WkL.cons (Weak.ref _) ?_ | refine WkL.cons (Weak.rp_agg _) ?_)
      · repeat (first | exact Sub.refl _ | exact Sub.none _ | refine Sub.p0 ?_ | refine Sub.p1 ?_ | refine Sub.p2 ?_ | refine Sub.p3 ?_ | refine Sub.p4 ?_ | refine Sub.p5 ?_ | refine Sub.p6 ?_ | refine Sub.drop ?_)
    · have hj : j = s.mod.length := by have h9 : ¬ j < s.mod.length := (by simpa using hj); omega
      subst hj
      rw [List.take_length] at hm4
      have e7 : m4 = l ++ encSumm s := by rw [hm4, hm3]; simp [encSumm]
      subst e7
      refine sw_exit ?_
      refine sw_seq ?_
      refine sl_region ?_
      refine sl_mv rfl rfl rfl ?_
      refine sl_as rfl rfl rfl ?_
      refine sl_nil ?_
      refine sw_ret ⟨rfl, _, _, res_one rfl rfl, ?_, ⟨v, rfl, rfl⟩⟩
      repeat (first | exact Sub.refl _ | exact Sub.none _ | refine Sub.p0 ?_ | refine Sub.p1 ?_ | refine Sub.p2 ?_ | refine Sub.p3 ?_ | refine Sub.p4 ?_ | refine Sub.p5 ?_ | refine Sub.p6 ?_ | refine Sub.drop ?_)

end Go.Proofs.Ytioechdfghglhaa
