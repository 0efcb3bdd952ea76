/- Walks: printed by a program of this session out of its script CodeF. -/
import Derived.Test.YtioechdfghglhaaSlT
import Derived.Test.YtioechdfghglhaaP5
import Derived.Test.YtioechdfghglhaaCodeE
namespace Go.Proofs.Ytioechdfghglhaa
set_option linter.unusedVariables false
set_option linter.unusedSimpArgs false
set_option maxRecDepth 4000
set_option maxHeartbeats 4000000
open Go Go.RowKit SL


theorem encText_len {s : List UInt8} (h : s.length ≤ 100) : (encText s).length ≤ 110 := by
  have := encNum_len (n := s.length) (by omega)
  unfold encText; rw [List.length_append]; omega

theorem encBool_len (b : Bool) : (encBool b).length ≤ 10 := by
  rw [encBool_eq]; simp

theorem flat_all {α : Type} {f : α → List UInt8} {c : Nat} {ns : List α} (h : ∀ n ∈ ns, (f n).length ≤ c) : (ns.flatMap f).length ≤ c * ns.length := by
  have := flat_len h ns.length
  rwa [List.take_length] at this

/-- CodeTogether. -/
theorem codeTogether_ok (ns : List Nat) (is : List Int) (ss : List (List UInt8)) (bs : List Bool) (hns : ∀ n ∈ ns, n < 18446744073709551616) (his : ∀ n ∈ is, isI64 n) :
    FSpec Try.prog 6 [.val (.list (ns.map u64V)), .val (.list (is.map i64V)), .val (.list (ss.map strV)), .val (.list (bs.map boolV))] [] (fun d σ' => d = .val (.bool true) ∧ σ' = []) := by
  refine spec_of_sw Try.func6 rfl ?_
  refine sw_seq ?_
  refine sl_region ?_
  refine sl_as rfl rfl rfl ?_
  refine sl_nil ?_
  refine sw_seq ?_
  refine sw_seq ?_
  refine sl_region ?_
  refine sl_callf rfl rfl cal_15 (known2_ok []) ?_ ?_ ?_ (fun _ _ h => h.elim)
  · repeat (first | exact Weaks.nil | refine Weaks.cons (Weak.junk _) ?_ | refine Weaks.cons (Weak.refl _) ?_ | refine Weaks.cons (Weak.toV rfl) ?_ | refine Weaks.cons (Weak.ref _) ?_ | refine Weaks.cons (Weak.rp_agg _) ?_)
  · repeat (first | exact Sub.refl _ | exact Sub.none _ | refine Sub.p0 ?_ | refine Sub.p1 ?_ | refine Sub.p2 ?_ | refine Sub.p3 ?_ | refine Sub.p4 ?_ | refine Sub.p5 ?_ | refine Sub.p6 ?_ | refine Sub.drop ?_)
  rintro _ _ ⟨rfl, rfl⟩
  refine sl_not rfl rfl rfl ?_
  refine sl_nil ?_
  refine sw_false rfl (rfl) ?_
  refine sw_skip ?_
  refine sw_seq ?_
  refine sw_seq ?_
  refine sl_region ?_
  refine sl_mv rfl rfl rfl ?_
  first
    | refine sl_len rfl rfl rfl ⟨_, u_51⟩ ?_
    | refine sl_len_sl rfl rfl rfl ⟨_, u_51⟩ ?_
  refine sl_bin rfl rfl rfl rfl rfl ?_
  refine sl_mv rfl rfl rfl ?_
  refine sl_case_at 21 rfl (fun h1 => ?_) (fun h1 => ?_)
  · refine sl_guard_n rfl rfl rfl h1 ?_
    refine sl_guard_n rfl rfl rfl h1 ?_
    refine sl_guard_n rfl rfl rfl h1 ?_
    refine sl_pk_t rfl rfl rfl h1 rfl ?_
    refine sl_mv rfl rfl rfl ?_
    refine sl_guard_n rfl rfl rfl (rfl) ?_
    refine sl_guard_n rfl rfl rfl (rfl) ?_
    refine sl_guard_n rfl rfl rfl (rfl) ?_
    refine sl_pk_t rfl rfl rfl (rfl) rfl ?_
    refine sl_mv rfl rfl rfl ?_
    refine sl_guard_n rfl rfl rfl (rfl) ?_
    refine sl_guard_n rfl rfl rfl (rfl) ?_
    refine sl_guard_n rfl rfl rfl (rfl) ?_
    refine sl_pk_t rfl rfl rfl (rfl) rfl ?_
    refine sl_nil ?_
    refine sw_true rfl (rfl) ?_
    refine sw_seq ?_
    refine sl_region ?_
    refine sl_as rfl rfl rfl ?_
    refine sl_nil ?_
    refine sw_ret ⟨rfl, _, _, res_one rfl rfl, ?_, ⟨rfl, rfl⟩⟩
    repeat (first | exact Sub.refl _ | exact Sub.none _ | refine Sub.p0 ?_ | refine Sub.p1 ?_ | refine Sub.p2 ?_ | refine Sub.p3 ?_ | refine Sub.p4 ?_ | refine Sub.p5 ?_ | refine Sub.p6 ?_ | refine Sub.drop ?_)
  · refine sl_guard_y rfl rfl rfl h1 ?_
    refine sl_mv rfl rfl rfl ?_
    refine sl_guard_y rfl rfl rfl h1 ?_
    first
      | refine sl_len rfl rfl rfl ⟨_, u_52⟩ ?_
      | refine sl_len_sl rfl rfl rfl ⟨_, u_52⟩ ?_
    refine sl_guard_y rfl rfl rfl h1 ?_
    refine sl_bin rfl rfl rfl rfl rfl ?_
    refine sl_pk_f rfl rfl rfl h1 rfl ?_
    refine sl_mv rfl rfl rfl ?_
    refine sl_case_at 26 rfl (fun h2 => ?_) (fun h2 => ?_)
    · refine sl_guard_n rfl rfl rfl h2 ?_
      refine sl_guard_n rfl rfl rfl h2 ?_
      refine sl_guard_n rfl rfl rfl h2 ?_
      refine sl_pk_t rfl rfl rfl h2 rfl ?_
      refine sl_mv rfl rfl rfl ?_
      refine sl_guard_n rfl rfl rfl (rfl) ?_
      refine sl_guard_n rfl rfl rfl (rfl) ?_
      refine sl_guard_n rfl rfl rfl (rfl) ?_
      refine sl_pk_t rfl rfl rfl (rfl) rfl ?_
      refine sl_nil ?_
      refine sw_true rfl (rfl) ?_
      refine sw_seq ?_
      refine sl_region ?_
      refine sl_as rfl rfl rfl ?_
      refine sl_nil ?_
      refine sw_ret ⟨rfl, _, _, res_one rfl rfl, ?_, ⟨rfl, rfl⟩⟩
      repeat (first | exact Sub.refl _ | exact Sub.none _ | refine Sub.p0 ?_ | refine Sub.p1 ?_ | refine Sub.p2 ?_ | refine Sub.p3 ?_ | refine Sub.p4 ?_ | refine Sub.p5 ?_ | refine Sub.p6 ?_ | refine Sub.drop ?_)
    · refine sl_guard_y rfl rfl rfl h2 ?_
      refine sl_mv rfl rfl rfl ?_
      refine sl_guard_y rfl rfl rfl h2 ?_
      first
        | refine sl_len rfl rfl rfl ⟨_, u_53⟩ ?_
        | refine sl_len_sl rfl rfl rfl ⟨_, u_53⟩ ?_
      refine sl_guard_y rfl rfl rfl h2 ?_
      refine sl_bin rfl rfl rfl rfl rfl ?_
      refine sl_pk_f rfl rfl rfl h2 rfl ?_
      refine sl_mv rfl rfl rfl ?_
      refine sl_case_at 31 rfl (fun h3 => ?_) (fun h3 => ?_)
      · refine sl_guard_n rfl rfl rfl h3 ?_
        refine sl_guard_n rfl rfl rfl h3 ?_
        refine sl_guard_n rfl rfl rfl h3 ?_
        refine sl_pk_t rfl rfl rfl h3 rfl ?_
        refine sl_nil ?_
        refine sw_true rfl (rfl) ?_
        refine sw_seq ?_
        refine sl_region ?_
        refine sl_as rfl rfl rfl ?_
        refine sl_nil ?_
        refine sw_ret ⟨rfl, _, _, res_one rfl rfl, ?_, ⟨rfl, rfl⟩⟩
        repeat (first | exact Sub.refl _ | exact Sub.none _ | refine Sub.p0 ?_ | refine Sub.p1 ?_ | refine Sub.p2 ?_ | refine Sub.p3 ?_ | refine Sub.p4 ?_ | refine Sub.p5 ?_ | refine Sub.p6 ?_ | refine Sub.drop ?_)
      · refine sl_guard_y rfl rfl rfl h3 ?_
        refine sl_mv rfl rfl rfl ?_
        refine sl_guard_y rfl rfl rfl h3 ?_
        first
          | refine sl_len rfl rfl rfl ⟨_, u_54⟩ ?_
          | refine sl_len_sl rfl rfl rfl ⟨_, u_54⟩ ?_
        refine sl_guard_y rfl rfl rfl h3 ?_
        refine sl_bin rfl rfl rfl rfl rfl ?_
        refine sl_pk_f rfl rfl rfl h3 rfl ?_
        refine sl_nil ?_
        refine sw_cond rfl (fun h4 => ?_) (fun h4 => ?_)
        · refine sw_seq ?_
          refine sl_region ?_
          refine sl_as rfl rfl rfl ?_
          refine sl_nil ?_
          refine sw_ret ⟨rfl, _, _, res_one rfl rfl, ?_, ⟨rfl, rfl⟩⟩
          repeat (first | exact Sub.refl _ | exact Sub.none _ | refine Sub.p0 ?_ | refine Sub.p1 ?_ | refine Sub.p2 ?_ | refine Sub.p3 ?_ | refine Sub.p4 ?_ | refine Sub.p5 ?_ | refine Sub.p6 ?_ | refine Sub.drop ?_)
        · have h1 : ns.length ≤ 20 := by have := of_decide_eq_false h1; simp only [List.length_map] at this; omega
          have h2 : is.length ≤ 20 := by have := of_decide_eq_false h2; simp only [List.length_map] at this; omega
          have h3 : ss.length ≤ 20 := by have := of_decide_eq_false h3; simp only [List.length_map] at this; omega
          have h4 : bs.length ≤ 20 := by have := of_decide_eq_false h4; simp only [List.length_map] at this; omega
          have l1 := flat_all (f := encNum) (c := 10) (ns := ns) (fun n hn => encNum_len (hns n hn))
          have l2 := flat_all (f := encInt) (c := 10) (ns := is) (fun n hn => encNum_len (zig_lt (his n hn)))
          have l4 := flat_all (f := encBool) (c := 10) (ns := bs) (fun b hb => encBool_len b)
          refine sw_skip ?_
          refine sw_seq ?_
          refine sl_region ?_
          refine sl_callf rfl rfl cal_16 (newWriter_ok []) ?_ ?_ ?_ (fun _ _ h => h.elim)
          · repeat (first | exact Weaks.nil | refine Weaks.cons (Weak.junk _) ?_ | refine Weaks.cons (Weak.refl _) ?_ | refine Weaks.cons (Weak.toV rfl) ?_ | refine Weaks.cons (Weak.ref _) ?_ | refine Weaks.cons (Weak.rp_agg _) ?_)
          · repeat (first | exact Sub.refl _ | exact Sub.none _ | refine Sub.p0 ?_ | refine Sub.p1 ?_ | refine Sub.p2 ?_ | refine Sub.p3 ?_ | refine Sub.p4 ?_ | refine Sub.p5 ?_ | refine Sub.p6 ?_ | refine Sub.drop ?_)
          rintro _ _ ⟨p1, v1, rfl, rfl⟩
          refine sl_callf rfl rfl cal_16 (newWriter_ok (.blk p1 [.own v1 (([] : List UInt8).map byteV)] :: .spare v1 1 :: [])) ?_ ?_ ?_ (fun _ _ h => h.elim)
          · repeat (first | exact Weaks.nil | refine Weaks.cons (Weak.junk _) ?_ | refine Weaks.cons (Weak.refl _) ?_ | refine Weaks.cons (Weak.toV rfl) ?_ | refine Weaks.cons (Weak.ref _) ?_ | refine Weaks.cons (Weak.rp_agg _) ?_)
          · repeat (first | exact Sub.refl _ | exact Sub.none _ | refine Sub.p0 ?_ | refine Sub.p1 ?_ | refine Sub.p2 ?_ | refine Sub.p3 ?_ | refine Sub.p4 ?_ | refine Sub.p5 ?_ | refine Sub.p6 ?_ | refine Sub.drop ?_)
          rintro _ _ ⟨p2, w0, rfl, rfl⟩
          refine sl_as rfl rfl rfl ?_
          refine sl_as rfl rfl rfl ?_
          refine sl_nil ?_
          refine sw_seq ?_
          refine sl_region ?_
          refine sl_mv rfl rfl rfl ?_
          refine sl_nc rfl rfl rfl rfl ?_
          first
            | refine sl_fieldAddr_ptr rfl rfl rfl fo_30_0 ?_
            | refine sl_fieldAddr_rp rfl rfl rfl fo_30_0 ?_
            | refine sl_fieldAddr_ref rfl rfl rfl fo_30_0 ?_
          refine sl_mv rfl rfl rfl ?_
          refine sl_callf rfl rfl cal_28 (num_ok p1 v1 [] ns (.blk p2 [.own w0 (([] : List UInt8).map byteV)] :: .spare w0 1 :: []) hns (by simp only [List.length_append, List.length_cons, List.length_nil]; omega)) ?_ ?_ ?_ (fun _ _ h => h.elim)
          · repeat (first | exact Weaks.nil | refine Weaks.cons (Weak.junk _) ?_ | refine Weaks.cons (Weak.refl _) ?_ | refine Weaks.cons (Weak.toV rfl) ?_ | refine Weaks.cons (Weak.ref _) ?_ | refine Weaks.cons (Weak.rp_agg _) ?_)
          · repeat (first | exact Sub.refl _ | exact Sub.none _ | refine Sub.p0 ?_ | refine Sub.p1 ?_ | refine Sub.p2 ?_ | refine Sub.p3 ?_ | refine Sub.p4 ?_ | refine Sub.p5 ?_ | refine Sub.p6 ?_ | refine Sub.drop ?_)
          rintro _ _ ⟨rfl, w1, rfl⟩
          refine sl_nil ?_
          refine sw_seq ?_
          refine sl_region ?_
          refine sl_mv rfl rfl rfl ?_
          refine sl_nc rfl rfl rfl rfl ?_
          first
            | refine sl_fieldAddr_ptr rfl rfl rfl fo_30_0 ?_
            | refine sl_fieldAddr_rp rfl rfl rfl fo_30_0 ?_
            | refine sl_fieldAddr_ref rfl rfl rfl fo_30_0 ?_
          refine sl_mv rfl rfl rfl ?_
          refine sl_callf rfl rfl cal_17 (int_ok p1 w1 (([] : List UInt8) ++ ns.flatMap encNum) is (.blk p2 [.own w0 (([] : List UInt8).map byteV)] :: .spare w0 1 :: []) his (by simp only [List.length_append, List.length_cons, List.length_nil]; omega)) ?_ ?_ ?_ (fun _ _ h => h.elim)
          · repeat (first | exact Weaks.nil | refine Weaks.cons (Weak.junk _) ?_ | refine Weaks.cons (Weak.refl _) ?_ | refine Weaks.cons (Weak.toV rfl) ?_ | refine Weaks.cons (Weak.ref _) ?_ | refine Weaks.cons (Weak.rp_agg _) ?_)
          · repeat (first | exact Sub.refl _ | exact Sub.none _ | refine Sub.p0 ?_ | refine Sub.p1 ?_ | refine Sub.p2 ?_ | refine Sub.p3 ?_ | refine Sub.p4 ?_ | refine Sub.p5 ?_ | refine Sub.p6 ?_ | refine Sub.drop ?_)
          rintro _ _ ⟨rfl, w2, rfl⟩
          refine sl_nil ?_
          refine sw_seq ?_
          refine sw_seq ?_
          refine sl_region ?_
          refine sl_as rfl rfl rfl ?_
          refine sl_nil ?_
          refine sw_block ?_
          refine sw_loopw (fun nX sX δX σX => ∃ (k : Nat), (ss.length - k) = nX ∧ sX = ⟨141, (.cons 0 (.val (.list (ns.map u64V))) (.cons 1 (.val (.list (is.map i64V))) (.cons 2 (.val (.list (ss.map strV))) (.cons 3 (.val (.list (bs.map boolV))) (.cons 9 (.ptr p1 0) (.cons 10 (.ptr p2 0) (.cons 11 (.val (.int .i64 (k : Int))) .nil)))))))⟩ ∧ δX = [] ∧ σX = .blk p1 [.own w2 ((([] : List UInt8) ++ ns.flatMap encNum ++ is.flatMap encInt).map byteV)] :: .spare w2 1 :: .blk p2 [.own w0 (([] : List UInt8).map byteV)] :: .spare w0 1 :: [] ∧ k ≤ ss.length ∧ ∀ s ∈ ss.take k, s.length ≤ 100) ?_ ?_
          · refine ⟨_, _, _, ?_, ?_, 0, rfl, rfl, rfl, rfl, Nat.zero_le _, by simp⟩
            · refine ⟨rfl, ?_⟩; repeat (first | exact WkL.nil | refine WkL.cons (Weak.refl _) ?_ | refine WkL.cons (Weak.toV rfl) ?_ | refine WkL.cons (Weak.ref _) ?_ | refine WkL.cons (Weak.rp_agg _) ?_)
            · repeat (first | exact Sub.refl _ | exact Sub.none _ | refine Sub.p0 ?_ | refine Sub.p1 ?_ | refine Sub.p2 ?_ | refine Sub.p3 ?_ | refine Sub.p4 ?_ | refine Sub.p5 ?_ | refine Sub.p6 ?_ | refine Sub.drop ?_)
          · rintro nX sX δX σX ⟨k, rfl, rfl, rfl, rfl, hk0, hss⟩
            refine sw_seq ?_
            refine sw_seq ?_
            refine sl_region ?_
            refine sl_mv rfl rfl rfl ?_
            refine sl_mv rfl rfl rfl ?_
            first
              | refine sl_len rfl rfl rfl ⟨_, u_53⟩ ?_
              | refine sl_len_sl rfl rfl rfl ⟨_, u_53⟩ ?_
            refine sl_bin rfl rfl rfl rfl rfl ?_
            refine sl_nil ?_
            refine sw_cond rfl (fun hk => ?_) (fun hk => ?_)
            · have hk : k < ss.length := by simpa using hk
              refine sw_skip ?_
              refine sw_seq ?_
              refine sw_block ?_
              refine sw_seq ?_
              refine sl_region ?_
              refine sl_mv rfl rfl rfl ?_
              refine sl_mv rfl rfl rfl ?_
              refine sl_indexAddr' rfl rfl rfl rfl u_53 sz_9 (by omega) (idx_map hk) rfl ?_
              first
                | refine sl_load_rp1 rfl rfl rfl ag_9 rfl ?_
                | refine sl_load_blk1 rfl rfl rfl ag_9 (by first | exact List.Mem.head _ | exact List.Mem.tail _ (List.Mem.head _) | exact List.Mem.tail _ (List.Mem.tail _ (List.Mem.head _)) | exact List.Mem.tail _ (List.Mem.tail _ (List.Mem.tail _ (List.Mem.head _))) | exact List.Mem.tail _ (List.Mem.tail _ (List.Mem.tail _ (List.Mem.tail _ (List.Mem.head _)))) | exact List.Mem.tail _ (List.Mem.tail _ (List.Mem.tail _ (List.Mem.tail _ (List.Mem.tail _ (List.Mem.head _)))))) rfl ?_
              refine sl_len_str rfl rfl rfl u_9 ?_
              refine sl_bin rfl rfl rfl rfl rfl ?_
              refine sl_nil ?_
              refine sw_cond rfl (fun hlong => ?_) (fun hlong => ?_)
              · refine sw_seq ?_
                refine sl_region ?_
                refine sl_as rfl rfl rfl ?_
                refine sl_nil ?_
                refine sw_ret ⟨rfl, _, _, res_one rfl rfl, ?_, ⟨rfl, rfl⟩⟩
                repeat (first | exact Sub.refl _ | exact Sub.none _ | refine Sub.p0 ?_ | refine Sub.p1 ?_ | refine Sub.p2 ?_ | refine Sub.p3 ?_ | refine Sub.p4 ?_ | refine Sub.p5 ?_ | refine Sub.p6 ?_ | refine Sub.drop ?_)
              · have hs1 : ss[k].length ≤ 100 := by have := of_decide_eq_false hlong; omega
                refine sw_skip ?_
                refine sl_region ?_
                refine sl_mv rfl rfl rfl ?_
                first
                  | refine sl_inc rfl rfl rfl rfl (by omega) ?_
                  | refine sl_add rfl rfl rfl rfl (by constructor <;> omega) ?_
                  | refine sl_bin rfl rfl rfl rfl rfl ?_
                refine sl_as rfl rfl rfl ?_
                refine sl_nil ?_
                refine ⟨_, by omega, _, _, ?_, ?_, k + 1, rfl, rfl, rfl, rfl, by omega, all_take_snoc hss hk hs1⟩
                · refine ⟨rfl, ?_⟩; repeat (first | exact WkL.nil | refine WkL.cons (Weak.refl _) ?_ | refine WkL.cons (Weak.toV rfl) ?_ | refine WkL.cons (Weak.ref _) ?_ | refine WkL.cons (Weak.rp_agg _) ?_)
                · repeat (first | exact Sub.refl _ | exact Sub.none _ | refine Sub.p0 ?_ | refine Sub.p1 ?_ | refine Sub.p2 ?_ | refine Sub.p3 ?_ | refine Sub.p4 ?_ | refine Sub.p5 ?_ | refine Sub.p6 ?_ | refine Sub.drop ?_)
            · have hk : k = ss.length := by have h9 : ¬ k < ss.length := (by simpa using hk); omega
              subst hk
              rw [List.take_length] at hss
              have l3 := flat_all (f := encText) (c := 110) (ns := ss) (fun s hs => encText_len (hss s hs))
              refine sw_exit ?_
              refine sw_seq ?_
              refine sl_region ?_
              refine sl_mv rfl rfl rfl ?_
              refine sl_nc rfl rfl rfl rfl ?_
              first
                | refine sl_fieldAddr_ptr rfl rfl rfl fo_30_0 ?_
                | refine sl_fieldAddr_rp rfl rfl rfl fo_30_0 ?_
                | refine sl_fieldAddr_ref rfl rfl rfl fo_30_0 ?_
              refine sl_mv rfl rfl rfl ?_
              refine sl_callf rfl rfl cal_29 (text_ok p1 w2 (([] : List UInt8) ++ ns.flatMap encNum ++ is.flatMap encInt) ss 100 (.blk p2 [.own w0 (([] : List UInt8).map byteV)] :: .spare w0 1 :: []) hss (by simp only [List.length_append, List.length_cons, List.length_nil]; omega)) ?_ ?_ ?_ (fun _ _ h => h.elim)
              · repeat (first | exact Weaks.nil | refine Weaks.cons (Weak.junk _) ?_ | refine Weaks.cons (Weak.refl _) ?_ | refine Weaks.cons (Weak.toV rfl) ?_ | refine Weaks.cons (Weak.ref _) ?_ | refine Weaks.cons (Weak.rp_agg _) ?_)
              · repeat (first | exact Sub.refl _ | exact Sub.none _ | refine Sub.p0 ?_ | refine Sub.p1 ?_ | refine Sub.p2 ?_ | refine Sub.p3 ?_ | refine Sub.p4 ?_ | refine Sub.p5 ?_ | refine Sub.p6 ?_ | refine Sub.drop ?_)
              rintro _ _ ⟨rfl, w3, rfl⟩
              refine sl_nil ?_
              refine sw_seq ?_
              refine sl_region ?_
              refine sl_mv rfl rfl rfl ?_
              refine sl_nc rfl rfl rfl rfl ?_
              first
                | refine sl_fieldAddr_ptr rfl rfl rfl fo_30_0 ?_
                | refine sl_fieldAddr_rp rfl rfl rfl fo_30_0 ?_
                | refine sl_fieldAddr_ref rfl rfl rfl fo_30_0 ?_
              refine sl_mv rfl rfl rfl ?_
              refine sl_callf rfl rfl cal_30 (bool_ok p1 w3 (([] : List UInt8) ++ ns.flatMap encNum ++ is.flatMap encInt ++ ss.flatMap encText) bs (.blk p2 [.own w0 (([] : List UInt8).map byteV)] :: .spare w0 1 :: []) (by simp only [List.length_append, List.length_cons, List.length_nil]; omega)) ?_ ?_ ?_ (fun _ _ h => h.elim)
              · repeat (first | exact Weaks.nil | refine Weaks.cons (Weak.junk _) ?_ | refine Weaks.cons (Weak.refl _) ?_ | refine Weaks.cons (Weak.toV rfl) ?_ | refine Weaks.cons (Weak.ref _) ?_ | refine Weaks.cons (Weak.rp_agg _) ?_)
              · repeat (first | exact Sub.refl _ | exact Sub.none _ | refine Sub.p0 ?_ | refine Sub.p1 ?_ | refine Sub.p2 ?_ | refine Sub.p3 ?_ | refine Sub.p4 ?_ | refine Sub.p5 ?_ | refine Sub.p6 ?_ | refine Sub.drop ?_)
              rintro _ _ ⟨rfl, w4, rfl⟩
              obtain ⟨full, hfull⟩ : ∃ full, full = ([] : List UInt8) ++ ns.flatMap encNum ++ is.flatMap encInt ++ ss.flatMap encText ++ bs.flatMap encBool := ⟨_, rfl⟩
              rw [← hfull]
              refine sl_nil ?_
              refine sw_seq ?_
              refine sw_seq ?_
              refine sl_region ?_
              refine sl_as rfl rfl rfl ?_
              refine sl_nil ?_
              refine sw_block ?_
              refine sw_loopw (fun nX sX δX σX => ∃ (k : Nat) (v : Value) (m : List UInt8), (ns.length - k) = nX ∧ sX = ⟨141, (.cons 0 (.val (.list (ns.map u64V))) (.cons 1 (.val (.list (is.map i64V))) (.cons 2 (.val (.list (ss.map strV))) (.cons 3 (.val (.list (bs.map boolV))) (.cons 9 (.ptr p1 0) (.cons 10 (.ptr p2 0) (.cons 12 (.val (.int .i64 (k : Int))) .nil)))))))⟩ ∧ δX = [] ∧ σX = .blk p2 [.own v (m.map byteV)] :: .spare v 1 :: .blk p1 [.own w4 (full.map byteV)] :: .spare w4 1 :: [] ∧ k ≤ ns.length ∧ m = ([] : List UInt8) ++ (ns.take k).flatMap encNum) ?_ ?_
              · refine ⟨_, _, _, ?_, ?_, 0, w0, ([] : List UInt8), rfl, rfl, rfl, rfl, Nat.zero_le _, by simp⟩
                · refine ⟨rfl, ?_⟩; repeat (first | exact WkL.nil | refine WkL.cons (Weak.refl _) ?_ | refine WkL.cons (Weak.toV rfl) ?_ | refine WkL.cons (Weak.ref _) ?_ | refine WkL.cons (Weak.rp_agg _) ?_)
                · repeat (first | exact Sub.refl _ | exact Sub.none _ | refine Sub.p0 ?_ | refine Sub.p1 ?_ | refine Sub.p2 ?_ | refine Sub.p3 ?_ | refine Sub.p4 ?_ | refine Sub.p5 ?_ | refine Sub.p6 ?_ | refine Sub.drop ?_)
              · rintro nX sX δX σX ⟨k, v, m, rfl, rfl, rfl, rfl, hk0, hm0⟩
                refine sw_seq ?_
                refine sw_seq ?_
                refine sl_region ?_
                refine sl_mv rfl rfl rfl ?_
                refine sl_mv rfl rfl rfl ?_
                first
                  | refine sl_len rfl rfl rfl ⟨_, u_51⟩ ?_
                  | refine sl_len_sl rfl rfl rfl ⟨_, u_51⟩ ?_
                refine sl_bin rfl rfl rfl rfl rfl ?_
                refine sl_nil ?_
                refine sw_cond rfl (fun hk => ?_) (fun hk => ?_)
                · have hk : k < ns.length := by simpa using hk
                  have hml : m.length + 10 ≤ 100000000 := by
                    have := flat_len (f := encNum) (c := 10) (ns := ns) (fun n hn => encNum_len (hns n hn)) k
                    have h2 : 10 * k ≤ 10 * 20 := Nat.mul_le_mul (Nat.le_refl _) (by omega)
                    rw [hm0]; simp only [List.length_append, List.length_nil]; omega
                  refine sw_skip ?_
                  refine sw_seq ?_
                  refine sw_block ?_
                  refine sa_start [] mixed ?_
                  refine sa_take 0 rfl rfl (by kernel_rfl) (by kernel_rfl) (by kernel_rfl) exacts_nil (pu_mv rfl rfl) ?_
                  refine sa_take 1 rfl rfl (by kernel_rfl) (by kernel_rfl) (by kernel_rfl) exacts_nil (pu_nc rfl rfl rfl) ?_
                  first
                    | refine sa_take 2 rfl rfl (by kernel_rfl) (by kernel_rfl) (by kernel_rfl) exacts_nil (pu_fieldAddr_ptr rfl rfl fo_30_0) ?_
                    | refine sa_take 2 rfl rfl (by kernel_rfl) (by kernel_rfl) (by kernel_rfl) exacts_nil (pu_fieldAddr_rp rfl rfl fo_30_0) ?_
                    | refine sa_take 2 rfl rfl (by kernel_rfl) (by kernel_rfl) (by kernel_rfl) exacts_nil (pu_fieldAddr_ref rfl rfl fo_30_0) ?_
                  refine sa_take 3 rfl rfl (by kernel_rfl) (by kernel_rfl) (by kernel_rfl) exacts_nil (pu_mv rfl rfl) ?_
                  refine sa_take 4 rfl rfl (by kernel_rfl) (by kernel_rfl) (by kernel_rfl) exacts_nil (pu_mv rfl rfl) ?_
                  refine sa_take 5 rfl rfl (by kernel_rfl) (by kernel_rfl) (by kernel_rfl) exacts_nil (pu_indexAddr rfl rfl rfl u_51 sz_37 (by omega) (idx_map hk) rfl) ?_
                  refine sa_take 6 rfl rfl (by kernel_rfl) (by kernel_rfl) (by kernel_rfl) exacts_nil (pu_load_rp1 rfl rfl ag_37 rfl) ?_
                  refine sa_one 7 (by kernel_rfl) rfl ?_
                  refine sl_bs1 rfl rfl (.cons rfl .nil) u_51 sz_37 zs_37 (by decide) rfl rfl rfl rfl ?_
                  refine sl_nil ⟨exacts_nil, ?_⟩
                  refine sa_one 8 (by kernel_rfl) rfl ?_
                  refine sl_callf rfl rfl cal_28 (num_ok p2 v m [ns[k]] (.blk p1 [.own w4 (full.map byteV)] :: .spare w4 1 :: []) (by intro n hn; rw [List.mem_singleton.mp hn]; exact hns _ (List.getElem_mem hk)) (by simp only [List.length_append, List.length_cons, List.length_nil]; omega)) ?_ ?_ ?_ (fun _ _ h => h.elim)
                  · repeat (first | exact Weaks.nil | refine Weaks.cons (Weak.junk _) ?_ | refine Weaks.cons (Weak.refl _) ?_ | refine Weaks.cons (Weak.toV rfl) ?_ | refine Weaks.cons (Weak.ref _) ?_ | refine Weaks.cons (Weak.rp_agg _) ?_)
                  · repeat (first | exact Sub.refl _ | exact Sub.none _ | refine Sub.p0 ?_ | refine Sub.p1 ?_ | refine Sub.p2 ?_ | refine Sub.p3 ?_ | refine Sub.p4 ?_ | refine Sub.p5 ?_ | refine Sub.p6 ?_ | refine Sub.drop ?_)
                  rintro _ _ ⟨rfl, v2, rfl⟩
                  refine sl_nil ⟨exacts_nil, ?_⟩
                  refine sa_done (by kernel_rfl) ?_
                  refine sl_region ?_
                  refine sl_mv rfl rfl rfl ?_
                  first
                    | refine sl_inc rfl rfl rfl rfl (by omega) ?_
                    | refine sl_add rfl rfl rfl rfl (by constructor <;> omega) ?_
                    | refine sl_bin rfl rfl rfl rfl rfl ?_
                  refine sl_as rfl rfl rfl ?_
                  refine sl_nil ?_
                  have e : m ++ [ns[k]].flatMap encNum = ([] : List UInt8) ++ (ns.take (k + 1)).flatMap encNum := by
                    rw [flat_snoc hk, hm0]; simp
                  refine ⟨_, by omega, _, _, ?_, ?_, k + 1, v2, _, rfl, rfl, rfl, rfl, by omega, e⟩
                  · refine ⟨rfl, ?_⟩; repeat (first | exact WkL.nil | refine WkL.cons (Weak.refl _) ?_ | refine WkL.cons (Weak.toV rfl) ?_ | refine WkL.cons (Weak.ref _) ?_ | refine WkL.cons (Weak.rp_agg _) ?_)
                  · repeat (first | exact Sub.refl _ | exact Sub.none _ | refine Sub.p0 ?_ | refine Sub.p1 ?_ | refine Sub.p2 ?_ | refine Sub.p3 ?_ | refine Sub.p4 ?_ | refine Sub.p5 ?_ | refine Sub.p6 ?_ | refine Sub.drop ?_)
                · have hk : k = ns.length := by have h9 : ¬ k < ns.length := (by simpa using hk); omega
                  subst hk
                  rw [List.take_length] at hm0
                  subst hm0
                  refine sw_exit ?_
                  refine sw_seq ?_
                  refine sw_seq ?_
                  refine sl_region ?_
                  refine sl_as rfl rfl rfl ?_
                  refine sl_nil ?_
                  refine sw_block ?_
                  refine sw_loopw (fun nX sX δX σX => ∃ (k : Nat) (v : Value) (m : List UInt8), (is.length - k) = nX ∧ sX = ⟨141, (.cons 0 (.val (.list (ns.map u64V))) (.cons 1 (.val (.list (is.map i64V))) (.cons 2 (.val (.list (ss.map strV))) (.cons 3 (.val (.list (bs.map boolV))) (.cons 9 (.ptr p1 0) (.cons 10 (.ptr p2 0) (.cons 13 (.val (.int .i64 (k : Int))) .nil)))))))⟩ ∧ δX = [] ∧ σX = .blk p2 [.own v (m.map byteV)] :: .spare v 1 :: .blk p1 [.own w4 (full.map byteV)] :: .spare w4 1 :: [] ∧ k ≤ is.length ∧ m = (([] : List UInt8) ++ ns.flatMap encNum) ++ (is.take k).flatMap encInt) ?_ ?_
                  · refine ⟨_, _, _, ?_, ?_, 0, v, (([] : List UInt8) ++ ns.flatMap encNum), rfl, rfl, rfl, rfl, Nat.zero_le _, by simp⟩
                    · refine ⟨rfl, ?_⟩; repeat (first | exact WkL.nil | refine WkL.cons (Weak.refl _) ?_ | refine WkL.cons (Weak.toV rfl) ?_ | refine WkL.cons (Weak.ref _) ?_ | refine WkL.cons (Weak.rp_agg _) ?_)
                    · repeat (first | exact Sub.refl _ | exact Sub.none _ | refine Sub.p0 ?_ | refine Sub.p1 ?_ | refine Sub.p2 ?_ | refine Sub.p3 ?_ | refine Sub.p4 ?_ | refine Sub.p5 ?_ | refine Sub.p6 ?_ | refine Sub.drop ?_)
                  · rintro nX sX δX σX ⟨k, v, m, rfl, rfl, rfl, rfl, hk0, hm0⟩
                    refine sw_seq ?_
                    refine sw_seq ?_
                    refine sl_region ?_
                    refine sl_mv rfl rfl rfl ?_
                    refine sl_mv rfl rfl rfl ?_
                    first
                      | refine sl_len rfl rfl rfl ⟨_, u_52⟩ ?_
                      | refine sl_len_sl rfl rfl rfl ⟨_, u_52⟩ ?_
                    refine sl_bin rfl rfl rfl rfl rfl ?_
                    refine sl_nil ?_
                    refine sw_cond rfl (fun hk => ?_) (fun hk => ?_)
                    · have hk : k < is.length := by simpa using hk
                      have hml : m.length + 10 ≤ 100000000 := by
                        have := flat_len (f := encInt) (c := 10) (ns := is) (fun n hn => encNum_len (zig_lt (his n hn))) k
                        have h2 : 10 * k ≤ 10 * 20 := Nat.mul_le_mul (Nat.le_refl _) (by omega)
                        rw [hm0]; simp only [List.length_append, List.length_nil]; omega
                      refine sw_skip ?_
                      refine sw_seq ?_
                      refine sw_block ?_
                      refine sa_start [] mixed ?_
                      refine sa_take 0 rfl rfl (by kernel_rfl) (by kernel_rfl) (by kernel_rfl) exacts_nil (pu_mv rfl rfl) ?_
                      refine sa_take 1 rfl rfl (by kernel_rfl) (by kernel_rfl) (by kernel_rfl) exacts_nil (pu_nc rfl rfl rfl) ?_
                      first
                        | refine sa_take 2 rfl rfl (by kernel_rfl) (by kernel_rfl) (by kernel_rfl) exacts_nil (pu_fieldAddr_ptr rfl rfl fo_30_0) ?_
                        | refine sa_take 2 rfl rfl (by kernel_rfl) (by kernel_rfl) (by kernel_rfl) exacts_nil (pu_fieldAddr_rp rfl rfl fo_30_0) ?_
                        | refine sa_take 2 rfl rfl (by kernel_rfl) (by kernel_rfl) (by kernel_rfl) exacts_nil (pu_fieldAddr_ref rfl rfl fo_30_0) ?_
                      refine sa_take 3 rfl rfl (by kernel_rfl) (by kernel_rfl) (by kernel_rfl) exacts_nil (pu_mv rfl rfl) ?_
                      refine sa_take 4 rfl rfl (by kernel_rfl) (by kernel_rfl) (by kernel_rfl) exacts_nil (pu_mv rfl rfl) ?_
                      refine sa_take 5 rfl rfl (by kernel_rfl) (by kernel_rfl) (by kernel_rfl) exacts_nil (pu_indexAddr rfl rfl rfl u_52 sz_2 (by omega) (idx_map hk) rfl) ?_
                      refine sa_take 6 rfl rfl (by kernel_rfl) (by kernel_rfl) (by kernel_rfl) exacts_nil (pu_load_rp1 rfl rfl ag_2 rfl) ?_
                      refine sa_one 7 (by kernel_rfl) rfl ?_
                      refine sl_bs1 rfl rfl (.cons rfl .nil) u_52 sz_2 zs_2 (by decide) rfl rfl rfl rfl ?_
                      refine sl_nil ⟨exacts_nil, ?_⟩
                      refine sa_one 8 (by kernel_rfl) rfl ?_
                      refine sl_callf rfl rfl cal_17 (int_ok p2 v m [is[k]] (.blk p1 [.own w4 (full.map byteV)] :: .spare w4 1 :: []) (by intro n hn; rw [List.mem_singleton.mp hn]; exact his _ (List.getElem_mem hk)) (by simp only [List.length_append, List.length_cons, List.length_nil]; omega)) ?_ ?_ ?_ (fun _ _ h => h.elim)
                      · repeat (first | exact Weaks.nil | refine Weaks.cons (Weak.junk _) ?_ | refine Weaks.cons (Weak.refl _) ?_ | refine Weaks.cons (Weak.toV rfl) ?_ | refine Weaks.cons (Weak.ref _) ?_ | refine Weaks.cons (Weak.rp_agg _) ?_)
                      · repeat (first | exact Sub.refl _ | exact Sub.none _ | refine Sub.p0 ?_ | refine Sub.p1 ?_ | refine Sub.p2 ?_ | refine Sub.p3 ?_ | refine Sub.p4 ?_ | refine Sub.p5 ?_ | refine Sub.p6 ?_ | refine Sub.drop ?_)
                      rintro _ _ ⟨rfl, v2, rfl⟩
                      refine sl_nil ⟨exacts_nil, ?_⟩
                      refine sa_done (by kernel_rfl) ?_
                      refine sl_region ?_
                      refine sl_mv rfl rfl rfl ?_
                      first
                        | refine sl_inc rfl rfl rfl rfl (by omega) ?_
                        | refine sl_add rfl rfl rfl rfl (by constructor <;> omega) ?_
                        | refine sl_bin rfl rfl rfl rfl rfl ?_
                      refine sl_as rfl rfl rfl ?_
                      refine sl_nil ?_
                      have e : m ++ [is[k]].flatMap encInt = (([] : List UInt8) ++ ns.flatMap encNum) ++ (is.take (k + 1)).flatMap encInt := by
                        rw [flat_snoc hk, hm0]; simp
                      refine ⟨_, by omega, _, _, ?_, ?_, k + 1, v2, _, rfl, rfl, rfl, rfl, by omega, e⟩
                      · refine ⟨rfl, ?_⟩; repeat (first | exact WkL.nil | refine WkL.cons (Weak.refl _) ?_ | refine WkL.cons (Weak.toV rfl) ?_ | refine WkL.cons (Weak.ref _) ?_ | refine WkL.cons (Weak.rp_agg _) ?_)
                      · repeat (first | exact Sub.refl _ | exact Sub.none _ | refine Sub.p0 ?_ | refine Sub.p1 ?_ | refine Sub.p2 ?_ | refine Sub.p3 ?_ | refine Sub.p4 ?_ | refine Sub.p5 ?_ | refine Sub.p6 ?_ | refine Sub.drop ?_)
                    · have hk : k = is.length := by have h9 : ¬ k < is.length := (by simpa using hk); omega
                      subst hk
                      rw [List.take_length] at hm0
                      subst hm0
                      refine sw_exit ?_
                      refine sw_seq ?_
                      refine sw_seq ?_
                      refine sl_region ?_
                      refine sl_as rfl rfl rfl ?_
                      refine sl_nil ?_
                      refine sw_block ?_
                      refine sw_loopw (fun nX sX δX σX => ∃ (k : Nat) (v : Value) (m : List UInt8), (ss.length - k) = nX ∧ sX = ⟨141, (.cons 0 (.val (.list (ns.map u64V))) (.cons 1 (.val (.list (is.map i64V))) (.cons 2 (.val (.list (ss.map strV))) (.cons 3 (.val (.list (bs.map boolV))) (.cons 9 (.ptr p1 0) (.cons 10 (.ptr p2 0) (.cons 14 (.val (.int .i64 (k : Int))) .nil)))))))⟩ ∧ δX = [] ∧ σX = .blk p2 [.own v (m.map byteV)] :: .spare v 1 :: .blk p1 [.own w4 (full.map byteV)] :: .spare w4 1 :: [] ∧ k ≤ ss.length ∧ m = ((([] : List UInt8) ++ ns.flatMap encNum) ++ is.flatMap encInt) ++ (ss.take k).flatMap encText) ?_ ?_
                      · refine ⟨_, _, _, ?_, ?_, 0, v, ((([] : List UInt8) ++ ns.flatMap encNum) ++ is.flatMap encInt), rfl, rfl, rfl, rfl, Nat.zero_le _, by simp⟩
                        · refine ⟨rfl, ?_⟩; repeat (first | exact WkL.nil | refine WkL.cons (Weak.refl _) ?_ | refine WkL.cons (Weak.toV rfl) ?_ | refine WkL.cons (Weak.ref _) ?_ | refine WkL.cons (Weak.rp_agg _) ?_)
                        · repeat (first | exact Sub.refl _ | exact Sub.none _ | refine Sub.p0 ?_ | refine Sub.p1 ?_ | refine Sub.p2 ?_ | refine Sub.p3 ?_ | refine Sub.p4 ?_ | refine Sub.p5 ?_ | refine Sub.p6 ?_ | refine Sub.drop ?_)
                      · rintro nX sX δX σX ⟨k, v, m, rfl, rfl, rfl, rfl, hk0, hm0⟩
                        refine sw_seq ?_
                        refine sw_seq ?_
                        refine sl_region ?_
                        refine sl_mv rfl rfl rfl ?_
                        refine sl_mv rfl rfl rfl ?_
                        first
                          | refine sl_len rfl rfl rfl ⟨_, u_53⟩ ?_
                          | refine sl_len_sl rfl rfl rfl ⟨_, u_53⟩ ?_
                        refine sl_bin rfl rfl rfl rfl rfl ?_
                        refine sl_nil ?_
                        refine sw_cond rfl (fun hk => ?_) (fun hk => ?_)
                        · have hk : k < ss.length := by simpa using hk
                          have hml : m.length + 110 ≤ 100000000 := by
                            have := flat_len (f := encText) (c := 110) (ns := ss) (fun s hs => encText_len (hss s hs)) k
                            have h2 : 110 * k ≤ 110 * 20 := Nat.mul_le_mul (Nat.le_refl _) (by omega)
                            rw [hm0]; simp only [List.length_append, List.length_nil]; omega
                          refine sw_skip ?_
                          refine sw_seq ?_
                          refine sw_block ?_
                          refine sa_start [] mixed ?_
                          refine sa_take 0 rfl rfl (by kernel_rfl) (by kernel_rfl) (by kernel_rfl) exacts_nil (pu_mv rfl rfl) ?_
                          refine sa_take 1 rfl rfl (by kernel_rfl) (by kernel_rfl) (by kernel_rfl) exacts_nil (pu_nc rfl rfl rfl) ?_
                          first
                            | refine sa_take 2 rfl rfl (by kernel_rfl) (by kernel_rfl) (by kernel_rfl) exacts_nil (pu_fieldAddr_ptr rfl rfl fo_30_0) ?_
                            | refine sa_take 2 rfl rfl (by kernel_rfl) (by kernel_rfl) (by kernel_rfl) exacts_nil (pu_fieldAddr_rp rfl rfl fo_30_0) ?_
                            | refine sa_take 2 rfl rfl (by kernel_rfl) (by kernel_rfl) (by kernel_rfl) exacts_nil (pu_fieldAddr_ref rfl rfl fo_30_0) ?_
                          refine sa_take 3 rfl rfl (by kernel_rfl) (by kernel_rfl) (by kernel_rfl) exacts_nil (pu_mv rfl rfl) ?_
                          refine sa_take 4 rfl rfl (by kernel_rfl) (by kernel_rfl) (by kernel_rfl) exacts_nil (pu_mv rfl rfl) ?_
                          refine sa_take 5 rfl rfl (by kernel_rfl) (by kernel_rfl) (by kernel_rfl) exacts_nil (pu_indexAddr rfl rfl rfl u_53 sz_9 (by omega) (idx_map hk) rfl) ?_
                          refine sa_take 6 rfl rfl (by kernel_rfl) (by kernel_rfl) (by kernel_rfl) exacts_nil (pu_load_rp1 rfl rfl ag_9 rfl) ?_
                          refine sa_one 7 (by kernel_rfl) rfl ?_
                          refine sl_bs1 rfl rfl (.cons rfl .nil) u_53 sz_9 zs_9 (by decide) rfl rfl rfl rfl ?_
                          refine sl_nil ⟨exacts_nil, ?_⟩
                          refine sa_one 8 (by kernel_rfl) rfl ?_
                          refine sl_callf rfl rfl cal_29 (text_ok p2 v m [ss[k]] 100 (.blk p1 [.own w4 (full.map byteV)] :: .spare w4 1 :: []) (by intro n hn; rw [List.mem_singleton.mp hn]; exact hss _ (List.getElem_mem hk)) (by simp only [List.length_append, List.length_cons, List.length_nil]; omega)) ?_ ?_ ?_ (fun _ _ h => h.elim)
                          · repeat (first | exact Weaks.nil | refine Weaks.cons (Weak.junk _) ?_ | refine Weaks.cons (Weak.refl _) ?_ | refine Weaks.cons (Weak.toV rfl) ?_ | refine Weaks.cons (Weak.ref _) ?_ | refine Weaks.cons (Weak.rp_agg _) ?_)
                          · repeat (first | exact Sub.refl _ | exact Sub.none _ | refine Sub.p0 ?_ | refine Sub.p1 ?_ | refine Sub.p2 ?_ | refine Sub.p3 ?_ | refine Sub.p4 ?_ | refine Sub.p5 ?_ | refine Sub.p6 ?_ | refine Sub.drop ?_)
                          rintro _ _ ⟨rfl, v2, rfl⟩
                          refine sl_nil ⟨exacts_nil, ?_⟩
                          refine sa_done (by kernel_rfl) ?_
                          refine sl_region ?_
                          refine sl_mv rfl rfl rfl ?_
                          first
                            | refine sl_inc rfl rfl rfl rfl (by omega) ?_
                            | refine sl_add rfl rfl rfl rfl (by constructor <;> omega) ?_
                            | refine sl_bin rfl rfl rfl rfl rfl ?_
                          refine sl_as rfl rfl rfl ?_
                          refine sl_nil ?_
                          have e : m ++ [ss[k]].flatMap encText = ((([] : List UInt8) ++ ns.flatMap encNum) ++ is.flatMap encInt) ++ (ss.take (k + 1)).flatMap encText := by
                            rw [flat_snoc hk, hm0]; simp
                          refine ⟨_, by omega, _, _, ?_, ?_, k + 1, v2, _, rfl, rfl, rfl, rfl, by omega, e⟩
                          · refine ⟨rfl, ?_⟩; repeat (first | exact WkL.nil | refine WkL.cons (Weak.refl _) ?_ | refine WkL.cons (Weak.toV rfl) ?_ | refine WkL.cons (Weak.ref _) ?_ | refine WkL.cons (Weak.rp_agg _) ?_)
                          · repeat (first | exact Sub.refl _ | exact Sub.none _ | refine Sub.p0 ?_ | refine Sub.p1 ?_ | refine Sub.p2 ?_ | refine Sub.p3 ?_ | refine Sub.p4 ?_ | refine Sub.p5 ?_ | refine Sub.p6 ?_ | refine Sub.drop ?_)
                        · have hk : k = ss.length := by have h9 : ¬ k < ss.length := (by simpa using hk); omega
                          subst hk
                          rw [List.take_length] at hm0
                          subst hm0
                          refine sw_exit ?_
                          refine sw_seq ?_
                          refine sw_seq ?_
                          refine sl_region ?_
                          refine sl_as rfl rfl rfl ?_
                          refine sl_nil ?_
                          refine sw_block ?_
                          refine sw_loopw (fun nX sX δX σX => ∃ (k : Nat) (v : Value) (m : List UInt8), (bs.length - k) = nX ∧ sX = ⟨141, (.cons 0 (.val (.list (ns.map u64V))) (.cons 1 (.val (.list (is.map i64V))) (.cons 2 (.val (.list (ss.map strV))) (.cons 3 (.val (.list (bs.map boolV))) (.cons 9 (.ptr p1 0) (.cons 10 (.ptr p2 0) (.cons 15 (.val (.int .i64 (k : Int))) .nil)))))))⟩ ∧ δX = [] ∧ σX = .blk p2 [.own v (m.map byteV)] :: .spare v 1 :: .blk p1 [.own w4 (full.map byteV)] :: .spare w4 1 :: [] ∧ k ≤ bs.length ∧ m = (((([] : List UInt8) ++ ns.flatMap encNum) ++ is.flatMap encInt) ++ ss.flatMap encText) ++ (bs.take k).flatMap encBool) ?_ ?_
                          · refine ⟨_, _, _, ?_, ?_, 0, v, (((([] : List UInt8) ++ ns.flatMap encNum) ++ is.flatMap encInt) ++ ss.flatMap encText), rfl, rfl, rfl, rfl, Nat.zero_le _, by simp⟩
                            · refine ⟨rfl, ?_⟩; repeat (first | exact WkL.nil | refine WkL.cons (Weak.refl _) ?_ | refine WkL.cons (Weak.toV rfl) ?_ | refine WkL.cons (Weak.ref _) ?_ | refine WkL.cons (Weak.rp_agg _) ?_)
                            · repeat (first | exact Sub.refl _ | exact Sub.none _ | refine Sub.p0 ?_ | refine Sub.p1 ?_ | refine Sub.p2 ?_ | refine Sub.p3 ?_ | refine Sub.p4 ?_ | refine Sub.p5 ?_ | refine Sub.p6 ?_ | refine Sub.drop ?_)
                          · rintro nX sX δX σX ⟨k, v, m, rfl, rfl, rfl, rfl, hk0, hm0⟩
                            refine sw_seq ?_
                            refine sw_seq ?_
                            refine sl_region ?_
                            refine sl_mv rfl rfl rfl ?_
                            refine sl_mv rfl rfl rfl ?_
                            first
                              | refine sl_len rfl rfl rfl ⟨_, u_54⟩ ?_
                              | refine sl_len_sl rfl rfl rfl ⟨_, u_54⟩ ?_
                            refine sl_bin rfl rfl rfl rfl rfl ?_
                            refine sl_nil ?_
                            refine sw_cond rfl (fun hk => ?_) (fun hk => ?_)
                            · have hk : k < bs.length := by simpa using hk
                              have hml : m.length + 10 ≤ 100000000 := by
                                have := flat_len (f := encBool) (c := 10) (ns := bs) (fun b hb => encBool_len b) k
                                have h2 : 10 * k ≤ 10 * 20 := Nat.mul_le_mul (Nat.le_refl _) (by omega)
                                rw [hm0]; simp only [List.length_append, List.length_nil]; omega
                              refine sw_skip ?_
                              refine sw_seq ?_
                              refine sw_block ?_
                              refine sa_start [] mixed ?_
                              refine sa_take 0 rfl rfl (by kernel_rfl) (by kernel_rfl) (by kernel_rfl) exacts_nil (pu_mv rfl rfl) ?_
                              refine sa_take 1 rfl rfl (by kernel_rfl) (by kernel_rfl) (by kernel_rfl) exacts_nil (pu_nc rfl rfl rfl) ?_
                              first
                                | refine sa_take 2 rfl rfl (by kernel_rfl) (by kernel_rfl) (by kernel_rfl) exacts_nil (pu_fieldAddr_ptr rfl rfl fo_30_0) ?_
                                | refine sa_take 2 rfl rfl (by kernel_rfl) (by kernel_rfl) (by kernel_rfl) exacts_nil (pu_fieldAddr_rp rfl rfl fo_30_0) ?_
                                | refine sa_take 2 rfl rfl (by kernel_rfl) (by kernel_rfl) (by kernel_rfl) exacts_nil (pu_fieldAddr_ref rfl rfl fo_30_0) ?_
                              refine sa_take 3 rfl rfl (by kernel_rfl) (by kernel_rfl) (by kernel_rfl) exacts_nil (pu_mv rfl rfl) ?_
                              refine sa_take 4 rfl rfl (by kernel_rfl) (by kernel_rfl) (by kernel_rfl) exacts_nil (pu_mv rfl rfl) ?_
                              refine sa_take 5 rfl rfl (by kernel_rfl) (by kernel_rfl) (by kernel_rfl) exacts_nil (pu_indexAddr rfl rfl rfl u_54 sz_4 (by omega) (idx_map hk) rfl) ?_
                              refine sa_take 6 rfl rfl (by kernel_rfl) (by kernel_rfl) (by kernel_rfl) exacts_nil (pu_load_rp1 rfl rfl ag_4 rfl) ?_
                              refine sa_one 7 (by kernel_rfl) rfl ?_
                              refine sl_bs1 rfl rfl (.cons rfl .nil) u_54 sz_4 zs_4 (by decide) rfl rfl rfl rfl ?_
                              refine sl_nil ⟨exacts_nil, ?_⟩
                              refine sa_one 8 (by kernel_rfl) rfl ?_
                              refine sl_callf rfl rfl cal_30 (bool_ok p2 v m [bs[k]] (.blk p1 [.own w4 (full.map byteV)] :: .spare w4 1 :: []) (by simp only [List.length_append, List.length_cons, List.length_nil]; omega)) ?_ ?_ ?_ (fun _ _ h => h.elim)
                              · repeat (first | exact Weaks.nil | refine Weaks.cons (Weak.junk _) ?_ | refine Weaks.cons (Weak.refl _) ?_ | refine Weaks.cons (Weak.toV rfl) ?_ | refine Weaks.cons (Weak.ref _) ?_ | refine Weaks.cons (Weak.rp_agg _) ?_)
                              · repeat (first | exact Sub.refl _ | exact Sub.none _ | refine Sub.p0 ?_ | refine Sub.p1 ?_ | refine Sub.p2 ?_ | refine Sub.p3 ?_ | refine Sub.p4 ?_ | refine Sub.p5 ?_ | refine Sub.p6 ?_ | refine Sub.drop ?_)
                              rintro _ _ ⟨rfl, v2, rfl⟩
                              refine sl_nil ⟨exacts_nil, ?_⟩
                              refine sa_done (by kernel_rfl) ?_
                              refine sl_region ?_
                              refine sl_mv rfl rfl rfl ?_
                              first
                                | refine sl_inc rfl rfl rfl rfl (by omega) ?_
                                | refine sl_add rfl rfl rfl rfl (by constructor <;> omega) ?_
                                | refine sl_bin rfl rfl rfl rfl rfl ?_
                              refine sl_as rfl rfl rfl ?_
                              refine sl_nil ?_
                              have e : m ++ [bs[k]].flatMap encBool = (((([] : List UInt8) ++ ns.flatMap encNum) ++ is.flatMap encInt) ++ ss.flatMap encText) ++ (bs.take (k + 1)).flatMap encBool := by
                                rw [flat_snoc hk, hm0]; simp
                              refine ⟨_, by omega, _, _, ?_, ?_, k + 1, v2, _, rfl, rfl, rfl, rfl, by omega, e⟩
                              · refine ⟨rfl, ?_⟩; repeat (first | exact WkL.nil | refine WkL.cons (Weak.refl _) ?_ | refine WkL.cons (Weak.toV rfl) ?_ | refine WkL.cons (Weak.ref _) ?_ | refine WkL.cons (Weak.rp_agg _) ?_)
                              · repeat (first | exact Sub.refl _ | exact Sub.none _ | refine Sub.p0 ?_ | refine Sub.p1 ?_ | refine Sub.p2 ?_ | refine Sub.p3 ?_ | refine Sub.p4 ?_ | refine Sub.p5 ?_ | refine Sub.p6 ?_ | refine Sub.drop ?_)
                            · have hk : k = bs.length := by have h9 : ¬ k < bs.length := (by simpa using hk); omega
                              subst hk
                              rw [List.take_length] at hm0
                              subst hm0
                              rw [← hfull]
                              have hfl : full.length ≤ 100000000 := by
                                rw [hfull]; simp only [List.length_append, List.length_nil]; omega
                              refine sw_exit ?_
                              refine sw_seq ?_
                              refine sa_start [] mixed ?_
                              refine sa_take 0 rfl rfl (by kernel_rfl) (by kernel_rfl) (by kernel_rfl) exacts_nil (pu_mv rfl rfl) ?_
                              refine sa_take 1 rfl rfl (by kernel_rfl) (by kernel_rfl) (by kernel_rfl) exacts_nil (pu_nc rfl rfl rfl) ?_
                              first
                                | refine sa_take 2 rfl rfl (by kernel_rfl) (by kernel_rfl) (by kernel_rfl) exacts_nil (pu_fieldAddr_ptr rfl rfl fo_30_0) ?_
                                | refine sa_take 2 rfl rfl (by kernel_rfl) (by kernel_rfl) (by kernel_rfl) exacts_nil (pu_fieldAddr_rp rfl rfl fo_30_0) ?_
                                | refine sa_take 2 rfl rfl (by kernel_rfl) (by kernel_rfl) (by kernel_rfl) exacts_nil (pu_fieldAddr_ref rfl rfl fo_30_0) ?_
                              refine sa_take 5 rfl rfl (by kernel_rfl) (by kernel_rfl) (by kernel_rfl) exacts_nil (pu_mv rfl rfl) ?_
                              refine sa_take 6 rfl rfl (by kernel_rfl) (by kernel_rfl) (by kernel_rfl) exacts_nil (pu_nc rfl rfl rfl) ?_
                              first
                                | refine sa_take 7 rfl rfl (by kernel_rfl) (by kernel_rfl) (by kernel_rfl) exacts_nil (pu_fieldAddr_ptr rfl rfl fo_30_0) ?_
                                | refine sa_take 7 rfl rfl (by kernel_rfl) (by kernel_rfl) (by kernel_rfl) exacts_nil (pu_fieldAddr_rp rfl rfl fo_30_0) ?_
                                | refine sa_take 7 rfl rfl (by kernel_rfl) (by kernel_rfl) (by kernel_rfl) exacts_nil (pu_fieldAddr_ref rfl rfl fo_30_0) ?_
                              refine sa_one 3 (by kernel_rfl) rfl ?_
                              refine sl_callf rfl rfl cal_19 (bytes_ok p1 w4 full (.spare w4 1 :: .blk p2 [.own v (full.map byteV)] :: []) hfl) ?_ ?_ ?_ (fun _ _ h => h.elim)
                              · repeat (first | exact Weaks.nil | refine Weaks.cons (Weak.junk _) ?_ | refine Weaks.cons (Weak.refl _) ?_ | refine Weaks.cons (Weak.toV rfl) ?_ | refine Weaks.cons (Weak.ref _) ?_ | refine Weaks.cons (Weak.rp_agg _) ?_)
                              · repeat (first | exact Sub.refl _ | exact Sub.none _ | refine Sub.p0 ?_ | refine Sub.p1 ?_ | refine Sub.p2 ?_ | refine Sub.p3 ?_ | refine Sub.p4 ?_ | refine Sub.p5 ?_ | refine Sub.p6 ?_ | refine Sub.drop ?_)
                              rintro _ _ ⟨rfl, rfl⟩
                              refine sl_nil ⟨exacts_nil, ?_⟩
                              refine sa_take 4 rfl rfl (by kernel_rfl) (by kernel_rfl) (by kernel_rfl) exacts_nil (pu_bytes_str rfl rfl u_26 u_5 u_9) ?_
                              refine sa_one 8 (by kernel_rfl) rfl ?_
                              refine sl_callf rfl rfl cal_19 (bytes_ok p2 v full [] hfl) ?_ ?_ ?_ (fun _ _ h => h.elim)
                              · repeat (first | exact Weaks.nil | refine Weaks.cons (Weak.junk _) ?_ | refine Weaks.cons (Weak.refl _) ?_ | refine Weaks.cons (Weak.toV rfl) ?_ | refine Weaks.cons (Weak.ref _) ?_ | refine Weaks.cons (Weak.rp_agg _) ?_)
                              · repeat (first | exact Sub.refl _ | exact Sub.none _ | refine Sub.p0 ?_ | refine Sub.p1 ?_ | refine Sub.p2 ?_ | refine Sub.p3 ?_ | refine Sub.p4 ?_ | refine Sub.p5 ?_ | refine Sub.p6 ?_ | refine Sub.drop ?_)
                              rintro _ _ ⟨rfl, rfl⟩
                              refine sl_nil ⟨exacts_nil, ?_⟩
                              refine sa_take 9 rfl rfl (by kernel_rfl) (by kernel_rfl) (by kernel_rfl) exacts_nil (pu_bytes_str rfl rfl u_26 u_5 u_9) ?_
                              refine sa_take 10 rfl rfl (by kernel_rfl) (by kernel_rfl) (by kernel_rfl) exacts_nil (pu_str rfl rfl rfl rfl) ?_
                              refine sa_one 11 (by kernel_rfl) rfl ?_
                              refine sl_as rfl rfl rfl ?_
                              refine sl_nil ⟨exacts_nil, ?_⟩
                              refine sa_done (by kernel_rfl) ?_
                              refine sw_ret ⟨rfl, _, _, res_one rfl rfl, ?_, ⟨congrArg (fun z => D.val (.bool z)) (beq_self_eq_true full), rfl⟩⟩
                              repeat (first | exact Sub.refl _ | exact Sub.none _ | refine Sub.p0 ?_ | refine Sub.p1 ?_ | refine Sub.p2 ?_ | refine Sub.p3 ?_ | refine Sub.p4 ?_ | refine Sub.p5 ?_ | refine Sub.p6 ?_ | refine Sub.drop ?_)

end Go.Proofs.Ytioechdfghglhaa
