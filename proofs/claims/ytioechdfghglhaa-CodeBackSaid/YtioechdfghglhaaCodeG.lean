/- Walks: printed by a program of this session out of its script CodeG. -/
import Derived.Test.YtioechdfghglhaaSlT
import Derived.Test.YtioechdfghglhaaP6
import Derived.Test.YtioechdfghglhaaCodeF
namespace Go.Proofs.Ytioechdfghglhaa
set_option linter.unusedVariables false
set_option linter.unusedSimpArgs false
set_option maxRecDepth 4000
set_option maxHeartbeats 4000000
open Go Go.RowKit SL


theorem rem_wrap {m : Int} : D.val (.int .i64 m) = .val (i64V m) := rfl

theorem place_ok (a n : Int) (σ : List Chunk) (hn : 0 < n) (hb : n ≤ 100000000) : FSpec Try.prog 31 [.val (i64V a), .val (i64V n)] σ (fun d σ' => d = .val (i64V (a % n)) ∧ σ' = σ) := by
  have hlt := Int.tmod_lt_of_pos a hn
  have hgt : -n < a.tmod n := by
    have h3 : a.tmod n = -((-a).tmod n) := by rw [Int.neg_tmod, Int.neg_neg]
    have h4 := Int.tmod_lt_of_pos (-a) hn
    omega
  refine spec_of_sw Try.func31 rfl ?_
  refine sw_seq ?_
  refine sl_region ?_
  refine sl_as rfl rfl rfl ?_
  refine sl_nil ?_
  refine sw_seq ?_
  refine sl_region ?_
  refine sl_mv rfl rfl rfl ?_
  refine sl_mv rfl rfl rfl ?_
  refine sl_rem rfl rfl rfl rfl (by omega) ?_
  refine sl_as rfl rfl rfl ?_
  refine sl_nil ?_
  refine sw_seq ?_
  refine sw_seq ?_
  refine sl_region ?_
  refine sl_mv rfl rfl rfl ?_
  refine sl_bin rfl rfl rfl rfl rfl ?_
  refine sl_nil ?_
  refine sw_cond rfl (fun h => ?_) (fun h => ?_)
  · have h : a.tmod n < 0 := of_decide_eq_true h
    refine sl_region ?_
    refine sl_mv rfl rfl rfl ?_
    refine sl_mv rfl rfl rfl ?_
    first
      | refine sl_inc rfl rfl rfl rfl (by omega) ?_
      | refine sl_add rfl rfl rfl rfl (by constructor <;> omega) ?_
      | refine sl_bin rfl rfl rfl rfl rfl ?_
    refine sl_set 12 (.val (i64V (a % n))) (congrArg (fun z => D.val (.int .i64 z)) (place_neg hn h)) ?_
    refine sl_as rfl rfl rfl ?_
    refine sl_nil ?_
    refine sw_seq ?_
    refine sl_region ?_
    refine sl_mv rfl rfl rfl ?_
    refine sl_as rfl rfl rfl ?_
    refine sl_nil ?_
    refine sw_ret ⟨rfl, _, _, res_one rfl rfl, ?_, ⟨rfl, rfl⟩⟩
    repeat (first | exact Sub.refl _ | exact Sub.none _ | refine Sub.p0 ?_ | refine Sub.p1 ?_ | refine Sub.p2 ?_ | refine Sub.p3 ?_ | refine Sub.p4 ?_ | refine Sub.p5 ?_ | refine Sub.p6 ?_ | refine Sub.drop ?_)
  · have h : ¬ a.tmod n < 0 := of_decide_eq_false h
    refine sw_set 0 (.val (i64V (a % n))) (congrArg (fun z => D.val (.int .i64 z)) (place_pos hn h)) ?_
    refine sw_skip ?_
    refine sw_seq ?_
    refine sl_region ?_
    refine sl_mv rfl rfl rfl ?_
    refine sl_as rfl rfl rfl ?_
    refine sl_nil ?_
    refine sw_ret ⟨rfl, _, _, res_one rfl rfl, ?_, ⟨rfl, rfl⟩⟩
    repeat (first | exact Sub.refl _ | exact Sub.none _ | refine Sub.p0 ?_ | refine Sub.p1 ?_ | refine Sub.p2 ?_ | refine Sub.p3 ?_ | refine Sub.p4 ?_ | refine Sub.p5 ?_ | refine Sub.p6 ?_ | refine Sub.drop ?_)

theorem len_ne_zero {m : List UInt8} (h : 0 < m.length) : ((((m.map byteV).length : Nat) : Int) == 0) = false := by
  rw [List.length_map, beq_eq_false_iff_ne]; omega

theorem ne_same {x y : List UInt8} (h : x = y) : (!(x == y)) = false := by subst h; simp

theorem encText_len2 {s : List UInt8} (h : s.length ≤ 200) : (encText s).length ≤ 210 := by
  have := encNum_len (n := s.length) (by omega)
  unfold encText; rw [List.length_append]; omega

/-- CodeCuts. -/
theorem codeCuts_ok (ss : List (List UInt8)) (at_ : Int) : FSpec Try.prog 7 [.val (.list (ss.map strV)), .val (i64V at_)] [] (fun d σ' => d = .val (.bool true) ∧ σ' = []) := by
  refine spec_of_sw Try.func7 rfl ?_
  refine sw_seq ?_
  refine sl_region ?_
  refine sl_as rfl rfl rfl ?_
  refine sl_nil ?_
  refine sw_seq ?_
  refine sw_seq ?_
  refine sl_region ?_
  refine sl_callf rfl rfl cal_15 (known2_ok []) ?_ ?_ ?_ (fun _ _ h => h.elim)
  · repeat (first | exact Weaks.nil | refine Weaks.cons (Weak.junk _) ?_ | refine Weaks.cons (Weak.refl _) ?_ | refine Weaks.cons (Weak.toV rfl) ?_ | refine Weaks.cons (Weak.ref _) ?_ | refine Weaks.cons (Weak.rp_agg _) ?_)
  · repeat (first | exact Sub.refl _ | exact Sub.none _ | refine Sub.p0 ?_ | refine Sub.p1 ?_ | refine Sub.p2 ?_ | refine Sub.p3 ?_ | refine Sub.p4 ?_ | refine Sub.p5 ?_ | refine Sub.p6 ?_ | refine Sub.drop ?_)
  rintro _ _ ⟨rfl, rfl⟩
  refine sl_not rfl rfl rfl ?_
  refine sl_nil ?_
  refine sw_false rfl (rfl) ?_
  refine sw_skip ?_
  refine sw_seq ?_
  refine sw_seq ?_
  refine sl_region ?_
  refine sl_mv rfl rfl rfl ?_
  first
    | refine sl_len rfl rfl rfl ⟨_, u_53⟩ ?_
    | refine sl_len_sl rfl rfl rfl ⟨_, u_53⟩ ?_
  refine sl_bin rfl rfl rfl rfl rfl ?_
  refine sl_mv rfl rfl rfl ?_
  refine sl_case_at 18 rfl (fun h1 => ?_) (fun h1 => ?_)
  · refine sl_guard_n rfl rfl rfl h1 ?_
    refine sl_guard_n rfl rfl rfl h1 ?_
    refine sl_guard_n rfl rfl rfl h1 ?_
    refine sl_pk_t rfl rfl rfl h1 rfl ?_
    refine sl_nil ?_
    refine sw_true rfl (rfl) ?_
    refine sw_seq ?_
    refine sl_region ?_
    refine sl_as rfl rfl rfl ?_
    refine sl_nil ?_
    refine sw_ret ⟨rfl, _, _, res_one rfl rfl, ?_, ⟨rfl, rfl⟩⟩
    repeat (first | exact Sub.refl _ | exact Sub.none _ | refine Sub.p0 ?_ | refine Sub.p1 ?_ | refine Sub.p2 ?_ | refine Sub.p3 ?_ | refine Sub.p4 ?_ | refine Sub.p5 ?_ | refine Sub.p6 ?_ | refine Sub.drop ?_)
  · refine sl_guard_y rfl rfl rfl h1 ?_
    refine sl_mv rfl rfl rfl ?_
    refine sl_guard_y rfl rfl rfl h1 ?_
    first
      | refine sl_len rfl rfl rfl ⟨_, u_53⟩ ?_
      | refine sl_len_sl rfl rfl rfl ⟨_, u_53⟩ ?_
    refine sl_guard_y rfl rfl rfl h1 ?_
    refine sl_bin rfl rfl rfl rfl rfl ?_
    refine sl_pk_f rfl rfl rfl h1 rfl ?_
    refine sl_nil ?_
    refine sw_cond rfl (fun h2 => ?_) (fun h2 => ?_)
    · refine sw_seq ?_
      refine sl_region ?_
      refine sl_as rfl rfl rfl ?_
      refine sl_nil ?_
      refine sw_ret ⟨rfl, _, _, res_one rfl rfl, ?_, ⟨rfl, rfl⟩⟩
      repeat (first | exact Sub.refl _ | exact Sub.none _ | refine Sub.p0 ?_ | refine Sub.p1 ?_ | refine Sub.p2 ?_ | refine Sub.p3 ?_ | refine Sub.p4 ?_ | refine Sub.p5 ?_ | refine Sub.p6 ?_ | refine Sub.drop ?_)
    · have h1 : 0 < ss.length := by
        rw [List.length_map, beq_eq_false_iff_ne] at h1; omega
      have h2 : ss.length ≤ 10 := by have := of_decide_eq_false h2; simp only [List.length_map] at this; omega
      refine sw_skip ?_
      refine sw_seq ?_
      refine sl_region ?_
      refine sl_callf rfl rfl cal_16 (newWriter_ok []) ?_ ?_ ?_ (fun _ _ h => h.elim)
      · repeat (first | exact Weaks.nil | refine Weaks.cons (Weak.junk _) ?_ | refine Weaks.cons (Weak.refl _) ?_ | refine Weaks.cons (Weak.toV rfl) ?_ | refine Weaks.cons (Weak.ref _) ?_ | refine Weaks.cons (Weak.rp_agg _) ?_)
      · repeat (first | exact Sub.refl _ | exact Sub.none _ | refine Sub.p0 ?_ | refine Sub.p1 ?_ | refine Sub.p2 ?_ | refine Sub.p3 ?_ | refine Sub.p4 ?_ | refine Sub.p5 ?_ | refine Sub.p6 ?_ | refine Sub.drop ?_)
      rintro _ _ ⟨p, w0, rfl, rfl⟩
      refine sl_as rfl rfl rfl ?_
      refine sl_nil ?_
      refine sw_seq ?_
      refine sl_region ?_
      refine sl_as rfl rfl rfl ?_
      refine sl_nil ?_
      refine sw_seq ?_
      refine sw_seq ?_
      refine sl_region ?_
      refine sl_as rfl rfl rfl ?_
      refine sl_own (t := 6) (sz := 1) rfl (fun e0 => ?_)
      refine sl_nil ?_
      refine sw_block ?_
      refine sw_loopw (fun nX sX δX σX => ∃ (k : Nat) (v : Value) (e : Value) (m : List UInt8) (es : List Int), (ss.length - k) = nX ∧ sX = ⟨120, (.cons 0 (.val (.list (ss.map strV))) (.cons 1 (.val (i64V at_)) (.cons 5 (.ptr p 0) (.cons 6 (.own e (es.map i64V)) (.cons 7 (.val (.int .i64 (k : Int))) .nil)))))⟩ ∧ δX = [] ∧ σX = .blk p [.own v (m.map byteV)] :: .spare v 1 :: .spare e 1 :: [] ∧ k ≤ ss.length ∧ m = ([] : List UInt8) ++ (ss.take k).flatMap encText ∧ es = endsOf ss k ∧ ∀ s ∈ ss.take k, s.length ≤ 200) ?_ ?_
      · refine ⟨_, _, _, ?_, ?_, 0, w0, e0, [], [], rfl, rfl, rfl, rfl, Nat.zero_le _, by simp, rfl, by simp⟩
        · refine ⟨rfl, ?_⟩; repeat (first | exact WkL.nil | refine WkL.cons (Weak.refl _) ?_ | refine WkL.cons (Weak.toV rfl) ?_ | refine WkL.cons (Weak.ref _) ?_ | refine WkL.cons (Weak.rp_agg _) ?_)
        · repeat (first | exact Sub.refl _ | exact Sub.none _ | refine Sub.p0 ?_ | refine Sub.p1 ?_ | refine Sub.p2 ?_ | refine Sub.p3 ?_ | refine Sub.p4 ?_ | refine Sub.p5 ?_ | refine Sub.p6 ?_ | refine Sub.drop ?_)
      · rintro nX sX δX σX ⟨k, v, e, m, es, rfl, rfl, rfl, rfl, hk0, hm0, he0, hss⟩
        refine sw_seq ?_
        refine sw_seq ?_
        refine sl_region ?_
        refine sl_mv rfl rfl rfl ?_
        refine sl_mv rfl rfl rfl ?_
        first
          | refine sl_len rfl rfl rfl ⟨_, u_53⟩ ?_
          | refine sl_len_sl rfl rfl rfl ⟨_, u_53⟩ ?_
        refine sl_bin rfl rfl rfl rfl rfl ?_
        refine sl_nil ?_
        refine sw_cond rfl (fun hk => ?_) (fun hk => ?_)
        · have hk : k < ss.length := by simpa using hk
          refine sw_skip ?_
          refine sw_seq ?_
          refine sw_block ?_
          refine sw_seq ?_
          refine sw_seq ?_
          refine sl_region ?_
          refine sl_mv rfl rfl rfl ?_
          refine sl_mv rfl rfl rfl ?_
          refine sl_indexAddr' rfl rfl rfl rfl u_53 sz_9 (by omega) (idx_map hk) rfl ?_
          first
            | refine sl_load_rp1 rfl rfl rfl ag_9 rfl ?_
            | refine sl_load_blk1 rfl rfl rfl ag_9 (by first | exact List.Mem.head _ | exact List.Mem.tail _ (List.Mem.head _) | exact List.Mem.tail _ (List.Mem.tail _ (List.Mem.head _)) | exact List.Mem.tail _ (List.Mem.tail _ (List.Mem.tail _ (List.Mem.head _))) | exact List.Mem.tail _ (List.Mem.tail _ (List.Mem.tail _ (List.Mem.tail _ (List.Mem.head _)))) | exact List.Mem.tail _ (List.Mem.tail _ (List.Mem.tail _ (List.Mem.tail _ (List.Mem.tail _ (List.Mem.head _)))))) rfl ?_
          refine sl_len_str rfl rfl rfl u_9 ?_
          refine sl_bin rfl rfl rfl rfl rfl ?_
          refine sl_nil ?_
          refine sw_cond rfl (fun hlong => ?_) (fun hlong => ?_)
          · refine sw_seq ?_
            refine sl_region ?_
            refine sl_as rfl rfl rfl ?_
            refine sl_nil ?_
            refine sw_ret ⟨rfl, _, _, res_one rfl rfl, ?_, ⟨rfl, rfl⟩⟩
            repeat (first | exact Sub.refl _ | exact Sub.none _ | refine Sub.p0 ?_ | refine Sub.p1 ?_ | refine Sub.p2 ?_ | refine Sub.p3 ?_ | refine Sub.p4 ?_ | refine Sub.p5 ?_ | refine Sub.p6 ?_ | refine Sub.drop ?_)
          · have hs1 : ss[k].length ≤ 200 := by have := of_decide_eq_false hlong; omega
            have hss1 := all_take_snoc hss hk hs1
            have hml : m.length + 210 ≤ 100000000 := by
              have := flat_all (f := encText) (c := 210) (ns := ss.take k) (fun s hs => encText_len2 (hss s hs))
              have h3 : (ss.take k).length ≤ 10 := by rw [List.length_take]; omega
              rw [hm0]; simp only [List.length_append, List.length_nil]; omega
            have hes : es.length ≤ 10 := by rw [he0, endsOf_len]; omega
            refine sw_skip ?_
            refine sw_seq ?_
            refine sa_start [] mixed ?_
            refine sa_take 0 rfl rfl (by kernel_rfl) (by kernel_rfl) (by kernel_rfl) exacts_nil (pu_mv rfl rfl) ?_
            refine sa_take 1 rfl rfl (by kernel_rfl) (by kernel_rfl) (by kernel_rfl) exacts_nil (pu_nc rfl rfl rfl) ?_
            first
              | refine sa_take 2 rfl rfl (by kernel_rfl) (by kernel_rfl) (by kernel_rfl) exacts_nil (pu_fieldAddr_ptr rfl rfl fo_30_0) ?_
              | refine sa_take 2 rfl rfl (by kernel_rfl) (by kernel_rfl) (by kernel_rfl) exacts_nil (pu_fieldAddr_rp rfl rfl fo_30_0) ?_
              | refine sa_take 2 rfl rfl (by kernel_rfl) (by kernel_rfl) (by kernel_rfl) exacts_nil (pu_fieldAddr_ref rfl rfl fo_30_0) ?_
            refine sa_take 3 rfl rfl (by kernel_rfl) (by kernel_rfl) (by kernel_rfl) exacts_nil (pu_mv rfl rfl) ?_
            refine sa_take 4 rfl rfl (by kernel_rfl) (by kernel_rfl) (by kernel_rfl) exacts_nil (pu_mv rfl rfl) ?_
            refine sa_take 5 rfl rfl (by kernel_rfl) (by kernel_rfl) (by kernel_rfl) exacts_nil (pu_indexAddr rfl rfl rfl u_53 sz_9 (by omega) (idx_map hk) rfl) ?_
            refine sa_take 6 rfl rfl (by kernel_rfl) (by kernel_rfl) (by kernel_rfl) exacts_nil (pu_load_rp1 rfl rfl ag_9 rfl) ?_
            refine sa_one 7 (by kernel_rfl) rfl ?_
            refine sl_bs1 rfl rfl (.cons rfl .nil) u_53 sz_9 zs_9 (by decide) rfl rfl rfl rfl ?_
            refine sl_nil ⟨exacts_nil, ?_⟩
            refine sa_one 8 (by kernel_rfl) rfl ?_
            refine sl_callf rfl rfl cal_29 (text_ok p v m [ss[k]] 200 (.spare e 1 :: []) (by intro n hn; rw [List.mem_singleton.mp hn]; exact hs1) (by simp only [List.length_cons, List.length_nil]; omega)) ?_ ?_ ?_ (fun _ _ h => h.elim)
            · repeat (first | exact Weaks.nil | refine Weaks.cons (Weak.junk _) ?_ | refine Weaks.cons (Weak.refl _) ?_ | refine Weaks.cons (Weak.toV rfl) ?_ | refine Weaks.cons (Weak.ref _) ?_ | refine Weaks.cons (Weak.rp_agg _) ?_)
            · repeat (first | exact Sub.refl _ | exact Sub.none _ | refine Sub.p0 ?_ | refine Sub.p1 ?_ | refine Sub.p2 ?_ | refine Sub.p3 ?_ | refine Sub.p4 ?_ | refine Sub.p5 ?_ | refine Sub.p6 ?_ | refine Sub.drop ?_)
            rintro _ _ ⟨rfl, v2, rfl⟩
            refine sl_nil ⟨exacts_nil, ?_⟩
            refine sa_done (by kernel_rfl) ?_
            refine sl_region ?_
            refine sl_mv rfl rfl rfl ?_
            refine sl_mv rfl rfl rfl ?_
            refine sl_nc rfl rfl rfl rfl ?_
            first
              | refine sl_fieldAddr_ptr rfl rfl rfl fo_30_0 ?_
              | refine sl_fieldAddr_rp rfl rfl rfl fo_30_0 ?_
              | refine sl_fieldAddr_ref rfl rfl rfl fo_30_0 ?_
            have e1 : m ++ [ss[k]].flatMap encText = ([] : List UInt8) ++ (ss.take (k + 1)).flatMap encText := by
              rw [flat_snoc hk, hm0]; simp
            have e2 : (m ++ [ss[k]].flatMap encText).length ≤ 100000000 := by
              have := encText_len2 hs1
              simp only [List.length_append, List.flatMap_cons, List.flatMap_nil, List.length_nil]; omega
            refine sl_callf rfl rfl cal_19 (bytes_ok p v2 (m ++ [ss[k]].flatMap encText) (.spare v2 1 :: .spare e 1 :: []) e2) ?_ ?_ ?_ (fun _ _ h => h.elim)
            · repeat (first | exact Weaks.nil | refine Weaks.cons (Weak.junk _) ?_ | refine Weaks.cons (Weak.refl _) ?_ | refine Weaks.cons (Weak.toV rfl) ?_ | refine Weaks.cons (Weak.ref _) ?_ | refine Weaks.cons (Weak.rp_agg _) ?_)
            · repeat (first | exact Sub.refl _ | exact Sub.none _ | refine Sub.p0 ?_ | refine Sub.p1 ?_ | refine Sub.p2 ?_ | refine Sub.p3 ?_ | refine Sub.p4 ?_ | refine Sub.p5 ?_ | refine Sub.p6 ?_ | refine Sub.drop ?_)
            rintro _ _ ⟨rfl, rfl⟩
            first
              | refine sl_len rfl rfl rfl ⟨_, u_26⟩ ?_
              | refine sl_len_sl rfl rfl rfl ⟨_, u_26⟩ ?_
            refine sl_set 50 (.val (i64V (cutE ss (k + 1) : Nat))) (by show D.val (.int .i64 _) = _; rw [List.length_map, e1, List.nil_append]; rfl) ?_
            refine sl_bs1 rfl rfl (.cons rfl .nil) u_59 sz_3 zs_3 (by decide) rfl rfl rfl rfl ?_
            first
              | refine sl_app rfl rfl rfl rfl u_59 ⟨_, u_59, rfl⟩ el_3 (by repeat (first | exact sized_nil | exact sized_map (fun _ => ⟨rfl, rfl⟩) | refine sized_cons rfl rfl ?_ | refine sized_append ?_ ?_ | assumption)) (by repeat (first | exact sized_nil | exact sized_map (fun _ => ⟨rfl, rfl⟩) | refine sized_cons rfl rfl ?_ | refine sized_append ?_ ?_ | assumption)) (by simp only [List.length_map, List.length_cons, List.length_nil]; omega) ((by rw [he0, endsOf_succ, List.map_append]; rfl : _ = (endsOf ss (k + 1)).map i64V)) (fun v52 => ?_)
              | (refine sl_f1 ?_; refine sl_app rfl rfl rfl rfl u_59 ⟨_, u_59, rfl⟩ el_3 (by repeat (first | exact sized_nil | exact sized_map (fun _ => ⟨rfl, rfl⟩) | refine sized_cons rfl rfl ?_ | refine sized_append ?_ ?_ | assumption)) (by repeat (first | exact sized_nil | exact sized_map (fun _ => ⟨rfl, rfl⟩) | refine sized_cons rfl rfl ?_ | refine sized_append ?_ ?_ | assumption)) (by simp only [List.length_map, List.length_cons, List.length_nil]; omega) ((by rw [he0, endsOf_succ, List.map_append]; rfl : _ = (endsOf ss (k + 1)).map i64V)) (fun v52 => ?_))
              | (refine sl_f2 ?_; refine sl_app rfl rfl rfl rfl u_59 ⟨_, u_59, rfl⟩ el_3 (by repeat (first | exact sized_nil | exact sized_map (fun _ => ⟨rfl, rfl⟩) | refine sized_cons rfl rfl ?_ | refine sized_append ?_ ?_ | assumption)) (by repeat (first | exact sized_nil | exact sized_map (fun _ => ⟨rfl, rfl⟩) | refine sized_cons rfl rfl ?_ | refine sized_append ?_ ?_ | assumption)) (by simp only [List.length_map, List.length_cons, List.length_nil]; omega) ((by rw [he0, endsOf_succ, List.map_append]; rfl : _ = (endsOf ss (k + 1)).map i64V)) (fun v52 => ?_))
              | (refine sl_f3 ?_; refine sl_app rfl rfl rfl rfl u_59 ⟨_, u_59, rfl⟩ el_3 (by repeat (first | exact sized_nil | exact sized_map (fun _ => ⟨rfl, rfl⟩) | refine sized_cons rfl rfl ?_ | refine sized_append ?_ ?_ | assumption)) (by repeat (first | exact sized_nil | exact sized_map (fun _ => ⟨rfl, rfl⟩) | refine sized_cons rfl rfl ?_ | refine sized_append ?_ ?_ | assumption)) (by simp only [List.length_map, List.length_cons, List.length_nil]; omega) ((by rw [he0, endsOf_succ, List.map_append]; rfl : _ = (endsOf ss (k + 1)).map i64V)) (fun v52 => ?_))
              | (refine sl_f4 ?_; refine sl_app rfl rfl rfl rfl u_59 ⟨_, u_59, rfl⟩ el_3 (by repeat (first | exact sized_nil | exact sized_map (fun _ => ⟨rfl, rfl⟩) | refine sized_cons rfl rfl ?_ | refine sized_append ?_ ?_ | assumption)) (by repeat (first | exact sized_nil | exact sized_map (fun _ => ⟨rfl, rfl⟩) | refine sized_cons rfl rfl ?_ | refine sized_append ?_ ?_ | assumption)) (by simp only [List.length_map, List.length_cons, List.length_nil]; omega) ((by rw [he0, endsOf_succ, List.map_append]; rfl : _ = (endsOf ss (k + 1)).map i64V)) (fun v52 => ?_))
              | (refine sl_f5 ?_; refine sl_app rfl rfl rfl rfl u_59 ⟨_, u_59, rfl⟩ el_3 (by repeat (first | exact sized_nil | exact sized_map (fun _ => ⟨rfl, rfl⟩) | refine sized_cons rfl rfl ?_ | refine sized_append ?_ ?_ | assumption)) (by repeat (first | exact sized_nil | exact sized_map (fun _ => ⟨rfl, rfl⟩) | refine sized_cons rfl rfl ?_ | refine sized_append ?_ ?_ | assumption)) (by simp only [List.length_map, List.length_cons, List.length_nil]; omega) ((by rw [he0, endsOf_succ, List.map_append]; rfl : _ = (endsOf ss (k + 1)).map i64V)) (fun v52 => ?_))
              | (refine sl_f6 ?_; refine sl_app rfl rfl rfl rfl u_59 ⟨_, u_59, rfl⟩ el_3 (by repeat (first | exact sized_nil | exact sized_map (fun _ => ⟨rfl, rfl⟩) | refine sized_cons rfl rfl ?_ | refine sized_append ?_ ?_ | assumption)) (by repeat (first | exact sized_nil | exact sized_map (fun _ => ⟨rfl, rfl⟩) | refine sized_cons rfl rfl ?_ | refine sized_append ?_ ?_ | assumption)) (by simp only [List.length_map, List.length_cons, List.length_nil]; omega) ((by rw [he0, endsOf_succ, List.map_append]; rfl : _ = (endsOf ss (k + 1)).map i64V)) (fun v52 => ?_))
            refine sl_as rfl rfl rfl ?_
            refine sl_nil ?_
            refine sl_region ?_
            refine sl_mv rfl rfl rfl ?_
            first
              | refine sl_inc rfl rfl rfl rfl (by omega) ?_
              | refine sl_add rfl rfl rfl rfl (by constructor <;> omega) ?_
              | refine sl_bin rfl rfl rfl rfl rfl ?_
            refine sl_as rfl rfl rfl ?_
            refine sl_nil ?_
            refine ⟨_, by omega, _, _, ?_, ?_, k + 1, v2, v52, m ++ [ss[k]].flatMap encText, endsOf ss (k + 1), rfl, rfl, rfl, rfl, by omega, e1, rfl, hss1⟩
            · refine ⟨rfl, ?_⟩; repeat (first | exact WkL.nil | refine WkL.cons (Weak.refl _) ?_ | refine WkL.cons (Weak.toV rfl) ?_ | refine WkL.cons (Weak.ref _) ?_ | refine WkL.cons (Weak.rp_agg _) ?_)
            · repeat (first | exact Sub.refl _ | exact Sub.none _ | refine Sub.p0 ?_ | refine Sub.p1 ?_ | refine Sub.p2 ?_ | refine Sub.p3 ?_ | refine Sub.p4 ?_ | refine Sub.p5 ?_ | refine Sub.p6 ?_ | refine Sub.drop ?_)
        · have hk : k = ss.length := by have h9 : ¬ k < ss.length := (by simpa using hk); omega
          subst hk
          rw [List.take_length] at hm0 hss
          rw [List.nil_append] at hm0
          subst hm0
          subst he0
          have hfl := flat_all (f := encText) (c := 210) (ns := ss) (fun s hs => encText_len2 (hss s hs))
          have hfp := full_pos h1
          have hfull : (ss.flatMap encText).length ≤ 2100 := by omega
          refine sw_exit ?_
          refine sw_seq ?_
          refine sl_region ?_
          refine sl_mv rfl rfl rfl ?_
          refine sl_nc rfl rfl rfl rfl ?_
          first
            | refine sl_fieldAddr_ptr rfl rfl rfl fo_30_0 ?_
            | refine sl_fieldAddr_rp rfl rfl rfl fo_30_0 ?_
            | refine sl_fieldAddr_ref rfl rfl rfl fo_30_0 ?_
          refine sl_callf rfl rfl cal_19 (bytes_ok p v (ss.flatMap encText) (.spare e 1 :: []) (by omega)) ?_ ?_ ?_ (fun _ _ h => h.elim)
          · repeat (first | exact Weaks.nil | refine Weaks.cons (Weak.junk _) ?_ | refine Weaks.cons (Weak.refl _) ?_ | refine Weaks.cons (Weak.toV rfl) ?_ | refine Weaks.cons (Weak.ref _) ?_ | refine Weaks.cons (Weak.rp_agg _) ?_)
          · repeat (first | exact Sub.refl _ | exact Sub.none _ | refine Sub.p0 ?_ | refine Sub.p1 ?_ | refine Sub.p2 ?_ | refine Sub.p3 ?_ | refine Sub.p4 ?_ | refine Sub.p5 ?_ | refine Sub.p6 ?_ | refine Sub.drop ?_)
          rintro _ _ ⟨rfl, rfl⟩
          refine sl_as rfl rfl rfl ?_
          refine sl_nil ?_
          refine sw_seq ?_
          refine sw_seq ?_
          refine sl_region ?_
          refine sl_mv rfl rfl rfl ?_
          first
            | refine sl_len rfl rfl rfl ⟨_, u_26⟩ ?_
            | refine sl_len_sl rfl rfl rfl ⟨_, u_26⟩ ?_
          refine sl_bin rfl rfl rfl rfl rfl ?_
          refine sl_nil ?_
          refine sw_false rfl (len_ne_zero hfp) ?_
          refine sw_skip ?_
          refine sw_seq ?_
          refine sl_region ?_
          refine sl_mv rfl rfl rfl ?_
          refine sl_mv rfl rfl rfl ?_
          first
            | refine sl_len rfl rfl rfl ⟨_, u_26⟩ ?_
            | refine sl_len_sl rfl rfl rfl ⟨_, u_26⟩ ?_
          refine sl_set 62 (.val (i64V ((ss.flatMap encText).length : Nat))) (congrArg (fun z : Nat => D.val (.int .i64 (z : Int))) (List.length_map ..)) ?_
          refine sl_callf rfl rfl cal_31 (place_ok at_ ((ss.flatMap encText).length : Nat) (.spare e 1 :: []) (by omega) (by omega)) ?_ ?_ ?_ (fun _ _ h => h.elim)
          · repeat (first | exact Weaks.nil | refine Weaks.cons (Weak.junk _) ?_ | refine Weaks.cons (Weak.refl _) ?_ | refine Weaks.cons (Weak.toV rfl) ?_ | refine Weaks.cons (Weak.ref _) ?_ | refine Weaks.cons (Weak.rp_agg _) ?_)
          · repeat (first | exact Sub.refl _ | exact Sub.none _ | refine Sub.p0 ?_ | refine Sub.p1 ?_ | refine Sub.p2 ?_ | refine Sub.p3 ?_ | refine Sub.p4 ?_ | refine Sub.p5 ?_ | refine Sub.p6 ?_ | refine Sub.drop ?_)
          rintro _ _ ⟨rfl, rfl⟩
          obtain ⟨k, hk⟩ : ∃ k : Nat, at_ % ((ss.flatMap encText).length : Int) = (k : Int) := ⟨(at_ % ((ss.flatMap encText).length : Int)).toNat, by have := Int.emod_nonneg at_ (show ((ss.flatMap encText).length : Int) ≠ 0 by omega); omega⟩
          have hkl : k < (ss.flatMap encText).length := by have := Int.emod_lt_of_pos at_ (show (0 : Int) < ((ss.flatMap encText).length : Int) by omega); omega
          rw [hk]
          refine sl_as rfl rfl rfl ?_
          refine sl_nil ?_
          refine sw_seq ?_
          refine sl_region ?_
          refine sl_mv rfl rfl rfl ?_
          refine sl_mv rfl rfl rfl ?_
          refine sl_slice_list 0 k rfl rfl rfl u_26 sz_5 (fun x hx => ((show Sized _ _ by repeat (first | exact sized_nil | exact sized_map (fun _ => ⟨rfl, rfl⟩) | refine sized_cons rfl rfl ?_ | refine sized_append ?_ ?_ | assumption)) x hx).1) rfl ⟨_, rfl⟩ (Nat.zero_le _) (by simp only [List.length_map]; omega) ?_
          refine sl_set 66 (.val (.list (((ss.flatMap encText).take k).map byteV))) (take_bytes _ k) ?_
          refine sl_callf rfl rfl cal_18 (newReader_ok ((ss.flatMap encText).take k) (.spare e 1 :: []) (by rw [List.length_take]; omega)) ?_ ?_ ?_ (fun _ _ h => h.elim)
          · repeat (first | exact Weaks.nil | refine Weaks.cons (Weak.junk _) ?_ | refine Weaks.cons (Weak.refl _) ?_ | refine Weaks.cons (Weak.toV rfl) ?_ | refine Weaks.cons (Weak.ref _) ?_ | refine Weaks.cons (Weak.rp_agg _) ?_)
          · repeat (first | exact Sub.refl _ | exact Sub.none _ | refine Sub.p0 ?_ | refine Sub.p1 ?_ | refine Sub.p2 ?_ | refine Sub.p3 ?_ | refine Sub.p4 ?_ | refine Sub.p5 ?_ | refine Sub.p6 ?_ | refine Sub.drop ?_)
          rintro _ _ ⟨q, rfl, rfl⟩
          refine sl_as rfl rfl rfl ?_
          refine sl_nil ?_
          refine sw_seq ?_
          refine sw_seq ?_
          refine sl_region ?_
          refine sl_as rfl rfl rfl ?_
          refine sl_nil ?_
          refine sw_block ?_
          refine sw_loopw (fun nX sX δX σX => ∃ (i : Nat) (c : Chunk), (ss.length - i) = nX ∧ sX = ⟨120, (.cons 0 (.val (.list (ss.map strV))) (.cons 6 (.own e ((endsOf ss ss.length).map i64V)) (.cons 9 (.val (i64V (k : Int))) (.cons 10 (.ptr q 0) (.cons 11 (.val (.int .i64 (i : Int))) .nil)))))⟩ ∧ δX = [] ∧ σX = c :: [] ∧ i ≤ ss.length ∧ Rdr q (stCut ss k i) c) ?_ ?_
          · refine ⟨_, _, _, ?_, ?_, 0, rd q ((ss.flatMap encText).take k) false, rfl, rfl, rfl, rfl, Nat.zero_le _, by rw [stCut_zero]; exact ⟨rfl, by rw [List.length_take]; omega⟩⟩
            · refine ⟨rfl, ?_⟩; repeat (first | exact WkL.nil | refine WkL.cons (Weak.refl _) ?_ | refine WkL.cons (Weak.toV rfl) ?_ | refine WkL.cons (Weak.ref _) ?_ | refine WkL.cons (Weak.rp_agg _) ?_)
            · repeat (first | exact Sub.refl _ | exact Sub.none _ | refine Sub.p0 ?_ | refine Sub.p1 ?_ | refine Sub.p2 ?_ | refine Sub.p3 ?_ | refine Sub.p4 ?_ | refine Sub.p5 ?_ | refine Sub.p6 ?_ | refine Sub.drop ?_)
          · rintro nX sX δX σX ⟨i, c, rfl, rfl, rfl, rfl, hi0, hc⟩
            refine sw_seq ?_
            refine sw_seq ?_
            refine sl_region ?_
            refine sl_mv rfl rfl rfl ?_
            refine sl_mv rfl rfl rfl ?_
            first
              | refine sl_len rfl rfl rfl ⟨_, u_53⟩ ?_
              | refine sl_len_sl rfl rfl rfl ⟨_, u_53⟩ ?_
            refine sl_bin rfl rfl rfl rfl rfl ?_
            refine sl_nil ?_
            refine sw_cond rfl (fun hi => ?_) (fun hi => ?_)
            · have hi : i < ss.length := by simpa using hi
              have hsi := hss ss[i] (List.getElem_mem hi)
              have hstep := cut_step (k := k) hi (by omega)
              refine sw_skip ?_
              refine sw_seq ?_
              refine sw_block ?_
              refine sw_seq ?_
              refine sl_region ?_
              refine sl_mv rfl rfl rfl ?_
              refine sl_callf rfl rfl cal_32 (pText_ok q (stCut ss k i) c [] hc) ?_ ?_ ?_ (fun _ _ h => h.elim)
              · repeat (first | exact Weaks.nil | refine Weaks.cons (Weak.junk _) ?_ | refine Weaks.cons (Weak.refl _) ?_ | refine Weaks.cons (Weak.toV rfl) ?_ | refine Weaks.cons (Weak.ref _) ?_ | refine Weaks.cons (Weak.rp_agg _) ?_)
              · repeat (first | exact Sub.refl _ | exact Sub.none _ | refine Sub.p0 ?_ | refine Sub.p1 ?_ | refine Sub.p2 ?_ | refine Sub.p3 ?_ | refine Sub.p4 ?_ | refine Sub.p5 ?_ | refine Sub.p6 ?_ | refine Sub.drop ?_)
              rintro _ _ ⟨rfl, c2, hc2, rfl⟩
              rw [hstep] at hc2 ⊢
              refine sl_as rfl rfl rfl ?_
              refine sl_nil ?_
              refine sw_seq ?_
              refine sl_region ?_
              refine sl_mv rfl rfl rfl ?_
              refine sl_mv rfl rfl rfl ?_
              refine sl_indexAddr' rfl rfl rfl rfl u_59 sz_3 (by omega) (ends_get hi) rfl ?_
              first
                | refine sl_load_rp1 rfl rfl rfl ag_3 rfl ?_
                | refine sl_load_blk1 rfl rfl rfl ag_3 (by first | exact List.Mem.head _ | exact List.Mem.tail _ (List.Mem.head _) | exact List.Mem.tail _ (List.Mem.tail _ (List.Mem.head _)) | exact List.Mem.tail _ (List.Mem.tail _ (List.Mem.tail _ (List.Mem.head _))) | exact List.Mem.tail _ (List.Mem.tail _ (List.Mem.tail _ (List.Mem.tail _ (List.Mem.head _)))) | exact List.Mem.tail _ (List.Mem.tail _ (List.Mem.tail _ (List.Mem.tail _ (List.Mem.tail _ (List.Mem.head _)))))) rfl ?_
              refine sl_mv rfl rfl rfl ?_
              refine sl_bin rfl rfl rfl rfl rfl ?_
              refine sl_mv rfl rfl rfl ?_
              refine sl_case_at 82 rfl (fun hA => ?_) (fun hA => ?_)
              · have hA1 : cutE ss (i + 1) ≤ k := by have := of_decide_eq_true hA; omega
                refine sl_guard_y rfl rfl rfl hA ?_
                refine sl_mv rfl rfl rfl ?_
                refine sl_guard_y rfl rfl rfl hA ?_
                refine sl_mv rfl rfl rfl ?_
                refine sl_guard_y rfl rfl rfl hA ?_
                refine sl_mv rfl rfl rfl ?_
                refine sl_guard_y rfl rfl rfl hA ?_
                refine sl_indexAddr' rfl rfl rfl rfl u_53 sz_9 (by omega) (idx_map hi) rfl ?_
                refine sl_guard_y rfl rfl rfl hA ?_
                first
                  | refine sl_load_rp1 rfl rfl rfl ag_9 rfl ?_
                  | refine sl_load_blk1 rfl rfl rfl ag_9 (by first | exact List.Mem.head _ | exact List.Mem.tail _ (List.Mem.head _) | exact List.Mem.tail _ (List.Mem.tail _ (List.Mem.head _)) | exact List.Mem.tail _ (List.Mem.tail _ (List.Mem.tail _ (List.Mem.head _))) | exact List.Mem.tail _ (List.Mem.tail _ (List.Mem.tail _ (List.Mem.tail _ (List.Mem.head _)))) | exact List.Mem.tail _ (List.Mem.tail _ (List.Mem.tail _ (List.Mem.tail _ (List.Mem.tail _ (List.Mem.head _)))))) rfl ?_
                refine sl_guard_y rfl rfl rfl hA ?_
                refine sl_str rfl rfl rfl rfl rfl ?_
                refine sl_pk_t rfl rfl rfl hA rfl ?_
                refine sl_mv rfl rfl rfl ?_
                refine sl_guard_y rfl rfl rfl (ne_same (if_pos hA1)) ?_
                refine sl_mv rfl rfl rfl ?_
                refine sl_guard_y rfl rfl rfl (ne_same (if_pos hA1)) ?_
                refine sl_mv rfl rfl rfl ?_
                refine sl_guard_y rfl rfl rfl (ne_same (if_pos hA1)) ?_
                refine sl_indexAddr' rfl rfl rfl rfl u_59 sz_3 (by omega) (ends_get hi) rfl ?_
                refine sl_guard_y rfl rfl rfl (ne_same (if_pos hA1)) ?_
                first
                  | refine sl_load_rp1 rfl rfl rfl ag_3 rfl ?_
                  | refine sl_load_blk1 rfl rfl rfl ag_3 (by first | exact List.Mem.head _ | exact List.Mem.tail _ (List.Mem.head _) | exact List.Mem.tail _ (List.Mem.tail _ (List.Mem.head _)) | exact List.Mem.tail _ (List.Mem.tail _ (List.Mem.tail _ (List.Mem.head _))) | exact List.Mem.tail _ (List.Mem.tail _ (List.Mem.tail _ (List.Mem.tail _ (List.Mem.head _)))) | exact List.Mem.tail _ (List.Mem.tail _ (List.Mem.tail _ (List.Mem.tail _ (List.Mem.tail _ (List.Mem.head _)))))) rfl ?_
                refine sl_guard_y rfl rfl rfl (ne_same (if_pos hA1)) ?_
                refine sl_mv rfl rfl rfl ?_
                refine sl_guard_y rfl rfl rfl (ne_same (if_pos hA1)) ?_
                refine sl_bin rfl rfl rfl rfl rfl ?_
                refine sl_guard_y rfl rfl rfl (ne_same (if_pos hA1)) ?_
                refine sl_mv rfl rfl rfl ?_
                refine sl_guard_n rfl rfl rfl (decide_eq_false (by omega)) ?_
                refine sl_guard_n rfl rfl rfl (decide_eq_false (by omega)) ?_
                refine sl_guard_y rfl rfl rfl (ne_same (if_pos hA1)) ?_
                refine sl_pk_f rfl rfl rfl (decide_eq_false (by omega)) rfl ?_
                refine sl_pk_f rfl rfl rfl (ne_same (if_pos hA1)) rfl ?_
                refine sl_nil ?_
                refine sw_false rfl (rfl) ?_
                refine sw_skip ?_
                refine sl_region ?_
                refine sl_mv rfl rfl rfl ?_
                first
                  | refine sl_inc rfl rfl rfl rfl (by omega) ?_
                  | refine sl_add rfl rfl rfl rfl (by constructor <;> omega) ?_
                  | refine sl_bin rfl rfl rfl rfl rfl ?_
                refine sl_as rfl rfl rfl ?_
                refine sl_nil ?_
                refine ⟨_, by omega, _, _, ?_, ?_, i + 1, c2, rfl, rfl, rfl, rfl, by omega, hc2⟩
                · refine ⟨rfl, ?_⟩; repeat (first | exact WkL.nil | refine WkL.cons (Weak.refl _) ?_ | refine WkL.cons (Weak.toV rfl) ?_ | refine WkL.cons (Weak.ref _) ?_ | refine WkL.cons (Weak.rp_agg _) ?_)
                · repeat (first | exact Sub.refl _ | exact Sub.none _ | refine Sub.p0 ?_ | refine Sub.p1 ?_ | refine Sub.p2 ?_ | refine Sub.p3 ?_ | refine Sub.p4 ?_ | refine Sub.p5 ?_ | refine Sub.p6 ?_ | refine Sub.drop ?_)
              · have hA1 : ¬ cutE ss (i + 1) ≤ k := by have := of_decide_eq_false hA; omega
                refine sl_guard_n rfl rfl rfl hA ?_
                refine sl_guard_n rfl rfl rfl hA ?_
                refine sl_guard_n rfl rfl rfl hA ?_
                refine sl_guard_n rfl rfl rfl hA ?_
                refine sl_guard_n rfl rfl rfl hA ?_
                refine sl_guard_n rfl rfl rfl hA ?_
                refine sl_pk_f rfl rfl rfl hA rfl ?_
                refine sl_mv rfl rfl rfl ?_
                refine sl_guard_y rfl rfl rfl (rfl) ?_
                refine sl_mv rfl rfl rfl ?_
                refine sl_guard_y rfl rfl rfl (rfl) ?_
                refine sl_mv rfl rfl rfl ?_
                refine sl_guard_y rfl rfl rfl (rfl) ?_
                refine sl_indexAddr' rfl rfl rfl rfl u_59 sz_3 (by omega) (ends_get hi) rfl ?_
                refine sl_guard_y rfl rfl rfl (rfl) ?_
                first
                  | refine sl_load_rp1 rfl rfl rfl ag_3 rfl ?_
                  | refine sl_load_blk1 rfl rfl rfl ag_3 (by first | exact List.Mem.head _ | exact List.Mem.tail _ (List.Mem.head _) | exact List.Mem.tail _ (List.Mem.tail _ (List.Mem.head _)) | exact List.Mem.tail _ (List.Mem.tail _ (List.Mem.tail _ (List.Mem.head _))) | exact List.Mem.tail _ (List.Mem.tail _ (List.Mem.tail _ (List.Mem.tail _ (List.Mem.head _)))) | exact List.Mem.tail _ (List.Mem.tail _ (List.Mem.tail _ (List.Mem.tail _ (List.Mem.tail _ (List.Mem.head _)))))) rfl ?_
                refine sl_guard_y rfl rfl rfl (rfl) ?_
                refine sl_mv rfl rfl rfl ?_
                refine sl_guard_y rfl rfl rfl (rfl) ?_
                refine sl_bin rfl rfl rfl rfl rfl ?_
                refine sl_guard_y rfl rfl rfl (rfl) ?_
                refine sl_mv rfl rfl rfl ?_
                refine sl_guard_y rfl rfl rfl (decide_eq_true (by omega)) ?_
                refine sl_mv rfl rfl rfl ?_
                refine sl_guard_y rfl rfl rfl (decide_eq_true (by omega)) ?_
                refine sl_str rfl rfl rfl rfl rfl ?_
                refine sl_guard_y rfl rfl rfl (rfl) ?_
                refine sl_pk_t rfl rfl rfl (decide_eq_true (by omega)) rfl ?_
                refine sl_pk_f rfl rfl rfl (rfl) rfl ?_
                refine sl_nil ?_
                refine sw_false rfl (ne_same (if_neg hA1)) ?_
                refine sw_skip ?_
                refine sl_region ?_
                refine sl_mv rfl rfl rfl ?_
                first
                  | refine sl_inc rfl rfl rfl rfl (by omega) ?_
                  | refine sl_add rfl rfl rfl rfl (by constructor <;> omega) ?_
                  | refine sl_bin rfl rfl rfl rfl rfl ?_
                refine sl_as rfl rfl rfl ?_
                refine sl_nil ?_
                refine ⟨_, by omega, _, _, ?_, ?_, i + 1, c2, rfl, rfl, rfl, rfl, by omega, hc2⟩
                · refine ⟨rfl, ?_⟩; repeat (first | exact WkL.nil | refine WkL.cons (Weak.refl _) ?_ | refine WkL.cons (Weak.toV rfl) ?_ | refine WkL.cons (Weak.ref _) ?_ | refine WkL.cons (Weak.rp_agg _) ?_)
                · repeat (first | exact Sub.refl _ | exact Sub.none _ | refine Sub.p0 ?_ | refine Sub.p1 ?_ | refine Sub.p2 ?_ | refine Sub.p3 ?_ | refine Sub.p4 ?_ | refine Sub.p5 ?_ | refine Sub.p6 ?_ | refine Sub.drop ?_)
            · have hi : i = ss.length := by have h9 : ¬ i < ss.length := (by simpa using hi); omega
              subst hi
              rw [stCut_end hkl] at hc
              refine sw_exit ?_
              refine sw_seq ?_
              refine sl_region ?_
              refine sl_mv rfl rfl rfl ?_
              refine sl_callf rfl rfl cal_21 (done_ok q none c [] hc) ?_ ?_ ?_ (fun _ _ h => h.elim)
              · repeat (first | exact Weaks.nil | refine Weaks.cons (Weak.junk _) ?_ | refine Weaks.cons (Weak.refl _) ?_ | refine Weaks.cons (Weak.toV rfl) ?_ | refine Weaks.cons (Weak.ref _) ?_ | refine Weaks.cons (Weak.rp_agg _) ?_)
              · repeat (first | exact Sub.refl _ | exact Sub.none _ | refine Sub.p0 ?_ | refine Sub.p1 ?_ | refine Sub.p2 ?_ | refine Sub.p3 ?_ | refine Sub.p4 ?_ | refine Sub.p5 ?_ | refine Sub.p6 ?_ | refine Sub.drop ?_)
              rintro _ _ ⟨rfl, rfl⟩
              refine sl_bin rfl rfl rfl rfl rfl ?_
              refine sl_mv rfl rfl rfl ?_
              refine sl_guard_y rfl rfl rfl (rfl) ?_
              refine sl_mv rfl rfl rfl ?_
              refine sl_guard_y rfl rfl rfl (rfl) ?_
              refine sl_callf rfl rfl cal_33 (pNum_ok q none c [] hc) ?_ ?_ ?_ (fun _ _ h => h.elim)
              · repeat (first | exact Weaks.nil | refine Weaks.cons (Weak.junk _) ?_ | refine Weaks.cons (Weak.refl _) ?_ | refine Weaks.cons (Weak.toV rfl) ?_ | refine Weaks.cons (Weak.ref _) ?_ | refine Weaks.cons (Weak.rp_agg _) ?_)
              · repeat (first | exact Sub.refl _ | exact Sub.none _ | refine Sub.p0 ?_ | refine Sub.p1 ?_ | refine Sub.p2 ?_ | refine Sub.p3 ?_ | refine Sub.p4 ?_ | refine Sub.p5 ?_ | refine Sub.p6 ?_ | refine Sub.drop ?_)
              rintro _ _ ⟨rfl, c2, hc2, rfl⟩
              refine sl_guard_y rfl rfl rfl (rfl) ?_
              refine sl_bin rfl rfl rfl rfl rfl ?_
              refine sl_pk_t rfl rfl rfl (rfl) rfl ?_
              refine sl_mv rfl rfl rfl ?_
              refine sl_guard_y rfl rfl rfl (rfl) ?_
              refine sl_mv rfl rfl rfl ?_
              refine sl_guard_y rfl rfl rfl (rfl) ?_
              refine sl_callf rfl rfl cal_20 (pInt_ok q none c2 [] hc2) ?_ ?_ ?_ (fun _ _ h => h.elim)
              · repeat (first | exact Weaks.nil | refine Weaks.cons (Weak.junk _) ?_ | refine Weaks.cons (Weak.refl _) ?_ | refine Weaks.cons (Weak.toV rfl) ?_ | refine Weaks.cons (Weak.ref _) ?_ | refine Weaks.cons (Weak.rp_agg _) ?_)
              · repeat (first | exact Sub.refl _ | exact Sub.none _ | refine Sub.p0 ?_ | refine Sub.p1 ?_ | refine Sub.p2 ?_ | refine Sub.p3 ?_ | refine Sub.p4 ?_ | refine Sub.p5 ?_ | refine Sub.p6 ?_ | refine Sub.drop ?_)
              rintro _ _ ⟨rfl, c3, hc3, rfl⟩
              refine sl_guard_y rfl rfl rfl (rfl) ?_
              refine sl_bin rfl rfl rfl rfl rfl ?_
              refine sl_pk_t rfl rfl rfl (rfl) rfl ?_
              refine sl_mv rfl rfl rfl ?_
              refine sl_guard_y rfl rfl rfl (rfl) ?_
              refine sl_mv rfl rfl rfl ?_
              refine sl_guard_y rfl rfl rfl (rfl) ?_
              refine sl_callf rfl rfl cal_34 (pBool_ok q none c3 [] hc3) ?_ ?_ ?_ (fun _ _ h => h.elim)
              · repeat (first | exact Weaks.nil | refine Weaks.cons (Weak.junk _) ?_ | refine Weaks.cons (Weak.refl _) ?_ | refine Weaks.cons (Weak.toV rfl) ?_ | refine Weaks.cons (Weak.ref _) ?_ | refine Weaks.cons (Weak.rp_agg _) ?_)
              · repeat (first | exact Sub.refl _ | exact Sub.none _ | refine Sub.p0 ?_ | refine Sub.p1 ?_ | refine Sub.p2 ?_ | refine Sub.p3 ?_ | refine Sub.p4 ?_ | refine Sub.p5 ?_ | refine Sub.p6 ?_ | refine Sub.drop ?_)
              rintro _ _ ⟨rfl, c4, hc4, rfl⟩
              refine sl_guard_y rfl rfl rfl (rfl) ?_
              refine sl_not rfl rfl rfl ?_
              refine sl_pk_t rfl rfl rfl (rfl) rfl ?_
              refine sl_as rfl rfl rfl ?_
              refine sl_nil ?_
              refine sw_ret ⟨rfl, _, _, res_one rfl rfl, ?_, ⟨rfl, rfl⟩⟩
              repeat (first | exact Sub.refl _ | exact Sub.none _ | refine Sub.p0 ?_ | refine Sub.p1 ?_ | refine Sub.p2 ?_ | refine Sub.p3 ?_ | refine Sub.p4 ?_ | refine Sub.p5 ?_ | refine Sub.p6 ?_ | refine Sub.drop ?_)

end Go.Proofs.Ytioechdfghglhaa
