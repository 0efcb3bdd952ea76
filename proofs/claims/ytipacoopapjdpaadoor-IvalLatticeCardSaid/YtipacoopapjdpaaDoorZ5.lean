/- Merged: the program logic, plain laws and walks (each part's first row says what it is); no conditions of its own. -/
import Derived.Test.YtipacoopapjdpaaDoorZ4
import Derived.Test.YtipacoopapjdpaaDoorZ3

/- Walks: printed by a program of this session out of its script IvalE. -/
namespace Go.Proofs.YtipacoopapjdpaaDoor
set_option linter.unusedVariables false
set_option linter.unusedSimpArgs false
set_option maxRecDepth 4000
set_option maxHeartbeats 4000000
open Go Go.RowKit SL


theorem tt_bool {x y : Bool} (h : x = y) : D.val (.bool (x == y)) = D.val (.bool true) := congrArg (fun b => D.val (.bool b)) (by simpa using h)
theorem ff_bool {x y : Bool} (h : x = y) : D.val (.bool (x != y)) = D.val (.bool false) := congrArg (fun b => D.val (.bool b)) (by simpa using h)
theorem tt_of {x : Bool} (h : x = true) : D.val (.bool x) = D.val (.bool true) := congrArg (fun b => D.val (.bool b)) h
theorem ff_of {x : Bool} (h : x = false) : D.val (.bool x) = D.val (.bool false) := congrArg (fun b => D.val (.bool b)) h

theorem ivalWidens_ok (l : List Ivl) (hl : ∀ x ∈ l, IvlOk x) : FSpec Tryd.prog 3 [.val (.list (l.map ivlV))] [] (fun d σ' => d = .val (.bool true) ∧ σ' = []) := by
  refine spec_of_sw Tryd.func3 rfl ?_
  refine sw_seq ?_
  refine sl_region ?_
  refine sl_as rfl rfl rfl ?_
  refine sl_nil ?_
  refine sw_seq ?_
  refine sw_seq ?_
  refine sl_region ?_
  refine sl_callp rfl rfl cal_8 (known12_ok) ?_ ?_
  · repeat constructor
  refine sl_not rfl rfl rfl ?_
  refine sl_nil ?_
  refine sw_false rfl (rfl) ?_
  refine sw_skip ?_
  refine sw_seq ?_
  refine sw_seq ?_
  refine sl_region ?_
  refine sl_mv rfl rfl rfl ?_
  first
    | refine sl_len rfl rfl rfl ⟨_, u_22⟩ ?_
    | refine sl_len_sl rfl rfl rfl ⟨_, u_22⟩ ?_
    | refine sl_len_w _ rfl rfl rfl ⟨_, u_22⟩ ?_
  refine sl_bin rfl rfl rfl rfl rfl ?_
  refine sl_nil ?_
  refine sw_cond rfl (fun h1 => ?_) (fun h1 => ?_)
  · refine sw_seq ?_
    refine sl_region ?_
    refine sl_as rfl rfl rfl ?_
    refine sl_nil ?_
    refine sw_ret ⟨rfl, _, _, res_one rfl rfl, ?_, ⟨rfl, rfl⟩⟩
    repeat constructor
  have h1 : l.length ≤ 50 := by have := of_decide_eq_false h1; simp only [List.length_map] at this; omega
  refine sw_skip ?_
  refine sw_seq ?_
  refine sl_region ?_
  refine sl_callp rfl rfl cal_9 (iempty_ok) ?_ ?_
  · repeat constructor
  refine sl_alloc rfl rfl zd_25 (fun b3 => ?_)
  refine sl_stp rfl rfl rfl rfl sz_25 rfl rfl rfl (by repeat constructor) (Nat.le_of_ble_eq_true rfl) ?_
  refine sl_nil ?_
  refine sw_seq ?_
  refine sl_region ?_
  refine sl_as rfl rfl rfl ?_
  refine sl_nil ?_
  refine sw_seq ?_
  refine sw_seq ?_
  refine sl_region ?_
  refine sl_as rfl rfl rfl ?_
  refine sl_nil ?_
  refine sw_block ?_
  refine sw_loopw (fun nX sX δX σX => ∃ (k : Nat) (a : Ivl) (ch : Nat), (l.length - k) = nX ∧ sX = ⟨49, (.cons 0 (.val (.list (l.map ivlV))) (.cons 3 (.ptr b3 0) (.cons 4 (.val (.int .i64 (ch : Int))) (.cons 5 (.val (.int .i64 (k : Int))) .nil))))⟩ ∧ δX = [] ∧ σX = .blk b3 (rowOf (ivlV a)) :: [] ∧ (k ≤ l.length) ∧ (Nrm a) ∧ (ch ≤ pot a)) ?_ ?_
  · refine ⟨_, _, _, ?_, ?_, 0, noIval, 0, rfl, rfl, rfl, rfl, (Nat.zero_le _), (nrm_none), (Nat.zero_le _)⟩
    · exact ⟨rfl, by repeat constructor⟩
    · repeat constructor
  rintro nX sX δX σX ⟨k, a, ch, rfl, rfl, rfl, rfl, hk0, ha, hch⟩
  refine sw_seq ?_
  refine sw_seq ?_
  refine sl_region ?_
  refine sl_mv rfl rfl rfl ?_
  refine sl_mv rfl rfl rfl ?_
  first
    | refine sl_len rfl rfl rfl ⟨_, u_22⟩ ?_
    | refine sl_len_sl rfl rfl rfl ⟨_, u_22⟩ ?_
    | refine sl_len_w _ rfl rfl rfl ⟨_, u_22⟩ ?_
  refine sl_bin rfl rfl rfl rfl rfl ?_
  refine sl_nil ?_
  refine sw_cond rfl (fun hk => ?_) (fun hk => ?_)
  · have hk : k < l.length := by simpa using hk
    have hx : IvlOk l[k] := hl _ (List.getElem_mem hk)
    have hpl := pot_le a
    have hs := stepW_ok ha hx
    have hab := stepW_above ha hx
    refine sw_skip ?_
    refine sw_seq ?_
    refine sw_block ?_
    refine sw_seq ?_
    refine sa_start [] mixed ?_
    refine sa_take 2 rfl rfl (by kernel_rfl) .nil (pu_mv rfl rfl) ?_
    refine sa_take 3 rfl rfl (by kernel_rfl) .nil (pu_mv rfl rfl) ?_
    refine sa_take 4 rfl rfl (by kernel_rfl) .nil (pu_indexAddr rfl rfl rfl u_22 sz_25 (by omega) (idx_map hk) rfl) ?_
    refine sa_take 5 rfl rfl (by kernel_rfl) .nil (pu_load_rpn rfl rfl ag_25 sz_25 (Nat.le_of_ble_eq_true rfl)) ?_
    apply sa_conf [.p 0 (some 19) [] _, .p 1 (some 20) [] _, .p 6 (some 25) [1] _, .p 7 (some 26) [2] _, .p 8 (some 27) [0, 3] _, .n 9 6 [.val (.bool false), .val (.int .i64 0), .val (.int .i64 0)]] (I := [(0, []), (1, []), (6, [1]), (7, [2]), (8, [0, 3]), (9, [])]) (nT := 6) rfl rfl rfl (by kernel_rfl) .nil
    · refine (.cons ?_ (.cons ?_ (.cons ?_ (.cons ?_ (.cons ?_ (.cons ?_ .nil))))))
      · apply StepOk.p
        iterate 3 rfl
        intro β σX hσX
        first
          | refine sl_load_rpn rfl rfl rfl ag_25 sz_25 (Nat.le_of_ble_eq_true rfl) ?_
          | refine sl_load_blkn rfl rfl rfl ag_25 sz_25 (hσX _ (by repeat constructor)) (Nat.le_of_ble_eq_true rfl) ?_
          | refine sl_load_ref rfl rfl rfl ag_25 sz_25 (Nat.le_of_ble_eq_true rfl) ?_
        exact sl_nil ⟨rfl, rfl, rfl, rfl⟩
      · apply StepOk.p
        iterate 3 rfl
        intro β σX hσX
        first
          | refine sl_load_rpn rfl rfl rfl ag_25 sz_25 (Nat.le_of_ble_eq_true rfl) ?_
          | refine sl_load_blkn rfl rfl rfl ag_25 sz_25 (hσX _ (by repeat constructor)) (Nat.le_of_ble_eq_true rfl) ?_
          | refine sl_load_ref rfl rfl rfl ag_25 sz_25 (Nat.le_of_ble_eq_true rfl) ?_
        exact sl_nil ⟨rfl, rfl, rfl, rfl⟩
      · apply StepOk.p
        iterate 3 rfl
        intro β σX hσX
        show SL _ _ _ _ (sput _ (some 20) _) _ _
        refine sl_bsn ([ivlV a, ivlV l[k]]) rfl rfl (.cons rfl (.cons rfl .nil)) u_22 sz_25 zs_25 (by decide) rfl rfl rfl (SzI.get (by repeat constructor)) ?_
        exact sl_nil ⟨rfl, rfl, rfl, rfl⟩
      · apply StepOk.p
        iterate 3 rfl
        intro β σX hσX
        show SL _ _ _ _ (sput _ (some 25) _) _ _
        refine sl_callp rfl rfl cal_11 (ijoin_ok [a, l[k]] (by simp)) ?_ ?_
        · repeat constructor
        exact sl_nil ⟨rfl, rfl, rfl, rfl⟩
      · apply StepOk.p
        iterate 3 rfl
        intro β σX hσX
        show SL _ _ _ _ (sput (sput _ (some 19) _) (some 26) _) _ _
        refine sl_callp rfl rfl cal_10 (iwiden_ok a (joinL [a, l[k]])) ?_ ?_
        · repeat constructor
        exact sl_nil ⟨rfl, rfl, rfl, rfl⟩
      · refine .n rfl rfl rfl (fun σX => ?_)
        exact sl_alloc rfl rfl zd_25 (fun b => sl_nil ⟨rfl, b, rfl, rfl, rfl⟩)
    refine contT_p (contT_p (contT_p (contT_p (contT_p (contT_n fun b6 => contT_nil ?_)))))
    refine sa_one 10 (by kernel_rfl) rfl ?_
    refine sl_stp rfl rfl rfl rfl sz_25 rfl rfl rfl (by repeat constructor) (Nat.le_of_ble_eq_true rfl) ?_
    refine sl_nil ⟨.nil, ?_⟩
    refine sa_done (by kernel_rfl) ?_
    refine sw_seq ?_
    refine sw_seq ?_
    refine sl_region ?_
    first
      | refine sl_load_rpn rfl rfl rfl ag_25 sz_25 (Nat.le_of_ble_eq_true rfl) ?_
      | refine sl_load_blkn rfl rfl rfl ag_25 sz_25 (by repeat constructor) (Nat.le_of_ble_eq_true rfl) ?_
      | refine sl_load_ref rfl rfl rfl ag_25 sz_25 (Nat.le_of_ble_eq_true rfl) ?_
    first
      | refine sl_load_rpn rfl rfl rfl ag_25 sz_25 (Nat.le_of_ble_eq_true rfl) ?_
      | refine sl_load_blkn rfl rfl rfl ag_25 sz_25 (by repeat constructor) (Nat.le_of_ble_eq_true rfl) ?_
      | refine sl_load_ref rfl rfl rfl ag_25 sz_25 (Nat.le_of_ble_eq_true rfl) ?_
    refine sl_struct_ne rfl rfl rfl rfl ag_25 eg_25 ek_25 rfl ?_
    refine sl_nil ?_
    refine sw_cond rfl (fun hne => ?_) (fun hne => ?_)
    · refine sl_region ?_
      refine sl_mv rfl rfl rfl ?_
      first
        | refine sl_inc rfl rfl rfl rfl (by omega) ?_
        | refine sl_add rfl rfl rfl rfl (by constructor <;> omega) ?_
        | refine sl_bin rfl rfl rfl rfl rfl ?_
      refine sl_as rfl rfl rfl ?_
      refine sl_nil ?_
      refine sw_seq ?_
      refine sw_seq ?_
      refine sa_start [] mixed ?_
      refine sa_take 0 rfl rfl (by kernel_rfl) .nil (pu_mv rfl rfl) ?_
      refine sa_take 1 rfl rfl (by kernel_rfl) .nil (pu_mv rfl rfl) ?_
      refine sa_take 2 rfl rfl (by kernel_rfl) .nil (pu_indexAddr rfl rfl rfl u_22 sz_25 (by omega) (idx_map hk) rfl) ?_
      refine sa_take 3 rfl rfl (by kernel_rfl) .nil (pu_load_rpn rfl rfl ag_25 sz_25 (Nat.le_of_ble_eq_true rfl)) ?_
      refine sa_one 4 (by kernel_rfl) rfl ?_
      refine sl_load_blkn rfl rfl rfl ag_25 sz_25 (by repeat constructor) (Nat.le_of_ble_eq_true rfl) ?_
      refine sl_nil ⟨.nil, ?_⟩
      refine sa_one 5 (by kernel_rfl) rfl ?_
      refine sl_callp rfl rfl cal_12 (ileq_ok l[k] (stepW a l[k])) ?_ ?_
      · repeat constructor
      refine sl_nil ⟨.nil, ?_⟩
      refine sa_take 6 rfl rfl (by kernel_rfl) .nil (pu_not rfl rfl) ?_
      refine sa_set 39 (.val (.bool false)) (ff_of (by rw [hab.2]; rfl)) ?_
      refine sa_take 7 rfl rfl (by kernel_rfl) .nil (pu_mv rfl rfl) ?_
      apply sa_conf [.p 8 (some 41) [] _, .p 9 (some 42) [] _] (I := [(8, []), (9, [])]) (nT := 2) rfl rfl rfl (by kernel_rfl) .nil
      · refine (.cons ?_ (.cons ?_ .nil))
        · apply StepOk.p
          iterate 3 rfl
          intro β σX hσX
          refine sl_guard_y rfl rfl rfl (rfl) ?_
          first
            | refine sl_load_rpn rfl rfl rfl ag_25 sz_25 (Nat.le_of_ble_eq_true rfl) ?_
            | refine sl_load_blkn rfl rfl rfl ag_25 sz_25 (hσX _ (by repeat constructor)) (Nat.le_of_ble_eq_true rfl) ?_
            | refine sl_load_ref rfl rfl rfl ag_25 sz_25 (Nat.le_of_ble_eq_true rfl) ?_
          exact sl_nil ⟨rfl, rfl, rfl, rfl⟩
        · apply StepOk.p
          iterate 3 rfl
          intro β σX hσX
          refine sl_guard_y rfl rfl rfl (rfl) ?_
          first
            | refine sl_load_rpn rfl rfl rfl ag_25 sz_25 (Nat.le_of_ble_eq_true rfl) ?_
            | refine sl_load_blkn rfl rfl rfl ag_25 sz_25 (hσX _ (by repeat constructor)) (Nat.le_of_ble_eq_true rfl) ?_
            | refine sl_load_ref rfl rfl rfl ag_25 sz_25 (Nat.le_of_ble_eq_true rfl) ?_
          exact sl_nil ⟨rfl, rfl, rfl, rfl⟩
      refine contT_p (contT_p (contT_nil ?_))
      refine sa_one 10 (by kernel_rfl) rfl ?_
      refine sl_guard_y rfl rfl rfl (rfl) ?_
      refine sl_callp rfl rfl cal_12 (ileq_ok a (stepW a l[k])) ?_ ?_
      · repeat constructor
      refine sl_nil ⟨.nil, ?_⟩
      refine sa_take_y 11 rfl rfl rfl rfl (rfl) (by kernel_rfl) .nil (pu_not rfl rfl) ?_
      refine sa_set 44 (.val (.bool false)) (ff_of (by rw [hab.1]; rfl)) ?_
      refine sa_take 12 rfl rfl (by kernel_rfl) .nil (pu_pk_f rfl rfl (rfl) rfl) ?_
      refine sa_done (by kernel_rfl) ?_
      refine sw_false rfl (rfl) ?_
      refine sw_skip ?_
      refine sl_region ?_
      first
        | refine sl_load_rpn rfl rfl rfl ag_25 sz_25 (Nat.le_of_ble_eq_true rfl) ?_
        | refine sl_load_blkn rfl rfl rfl ag_25 sz_25 (by repeat constructor) (Nat.le_of_ble_eq_true rfl) ?_
        | refine sl_load_ref rfl rfl rfl ag_25 sz_25 (Nat.le_of_ble_eq_true rfl) ?_
      refine sl_stp rfl rfl rfl rfl sz_25 rfl rfl rfl (by repeat constructor) (Nat.le_of_ble_eq_true rfl) ?_
      refine sl_nil ?_
      refine sl_region ?_
      refine sl_mv rfl rfl rfl ?_
      first
        | refine sl_inc rfl rfl rfl rfl (by omega) ?_
        | refine sl_add rfl rfl rfl rfl (by constructor <;> omega) ?_
        | refine sl_bin rfl rfl rfl rfl rfl ?_
      refine sl_as rfl rfl rfl ?_
      refine sl_nil ?_
      refine ⟨_, by omega, _, _, ?_, ?_, k + 1, stepW a l[k], ch + 1, rfl, rfl, rfl, rfl, (by omega), (hs), (by rcases stepW_pot ha hx with h | h; have hne2 : (!eqI (stepW a l[k]) a) = true := hne; rw [eqI_of h] at hne2; cases hne2; omega)⟩
      · exact ⟨rfl, by repeat constructor⟩
      · repeat constructor
    refine sw_skip ?_
    refine sw_seq ?_
    refine sw_seq ?_
    refine sa_start [] mixed ?_
    refine sa_take 0 rfl rfl (by kernel_rfl) .nil (pu_mv rfl rfl) ?_
    refine sa_take 1 rfl rfl (by kernel_rfl) .nil (pu_mv rfl rfl) ?_
    refine sa_take 2 rfl rfl (by kernel_rfl) .nil (pu_indexAddr rfl rfl rfl u_22 sz_25 (by omega) (idx_map hk) rfl) ?_
    refine sa_take 3 rfl rfl (by kernel_rfl) .nil (pu_load_rpn rfl rfl ag_25 sz_25 (Nat.le_of_ble_eq_true rfl)) ?_
    refine sa_one 4 (by kernel_rfl) rfl ?_
    refine sl_load_blkn rfl rfl rfl ag_25 sz_25 (by repeat constructor) (Nat.le_of_ble_eq_true rfl) ?_
    refine sl_nil ⟨.nil, ?_⟩
    refine sa_one 5 (by kernel_rfl) rfl ?_
    refine sl_callp rfl rfl cal_12 (ileq_ok l[k] (stepW a l[k])) ?_ ?_
    · repeat constructor
    refine sl_nil ⟨.nil, ?_⟩
    refine sa_take 6 rfl rfl (by kernel_rfl) .nil (pu_not rfl rfl) ?_
    refine sa_set 39 (.val (.bool false)) (ff_of (by rw [hab.2]; rfl)) ?_
    refine sa_take 7 rfl rfl (by kernel_rfl) .nil (pu_mv rfl rfl) ?_
    apply sa_conf [.p 8 (some 41) [] _, .p 9 (some 42) [] _] (I := [(8, []), (9, [])]) (nT := 2) rfl rfl rfl (by kernel_rfl) .nil
    · refine (.cons ?_ (.cons ?_ .nil))
      · apply StepOk.p
        iterate 3 rfl
        intro β σX hσX
        refine sl_guard_y rfl rfl rfl (rfl) ?_
        first
          | refine sl_load_rpn rfl rfl rfl ag_25 sz_25 (Nat.le_of_ble_eq_true rfl) ?_
          | refine sl_load_blkn rfl rfl rfl ag_25 sz_25 (hσX _ (by repeat constructor)) (Nat.le_of_ble_eq_true rfl) ?_
          | refine sl_load_ref rfl rfl rfl ag_25 sz_25 (Nat.le_of_ble_eq_true rfl) ?_
        exact sl_nil ⟨rfl, rfl, rfl, rfl⟩
      · apply StepOk.p
        iterate 3 rfl
        intro β σX hσX
        refine sl_guard_y rfl rfl rfl (rfl) ?_
        first
          | refine sl_load_rpn rfl rfl rfl ag_25 sz_25 (Nat.le_of_ble_eq_true rfl) ?_
          | refine sl_load_blkn rfl rfl rfl ag_25 sz_25 (hσX _ (by repeat constructor)) (Nat.le_of_ble_eq_true rfl) ?_
          | refine sl_load_ref rfl rfl rfl ag_25 sz_25 (Nat.le_of_ble_eq_true rfl) ?_
        exact sl_nil ⟨rfl, rfl, rfl, rfl⟩
    refine contT_p (contT_p (contT_nil ?_))
    refine sa_one 10 (by kernel_rfl) rfl ?_
    refine sl_guard_y rfl rfl rfl (rfl) ?_
    refine sl_callp rfl rfl cal_12 (ileq_ok a (stepW a l[k])) ?_ ?_
    · repeat constructor
    refine sl_nil ⟨.nil, ?_⟩
    refine sa_take_y 11 rfl rfl rfl rfl (rfl) (by kernel_rfl) .nil (pu_not rfl rfl) ?_
    refine sa_set 44 (.val (.bool false)) (ff_of (by rw [hab.1]; rfl)) ?_
    refine sa_take 12 rfl rfl (by kernel_rfl) .nil (pu_pk_f rfl rfl (rfl) rfl) ?_
    refine sa_done (by kernel_rfl) ?_
    refine sw_false rfl (rfl) ?_
    refine sw_skip ?_
    refine sl_region ?_
    first
      | refine sl_load_rpn rfl rfl rfl ag_25 sz_25 (Nat.le_of_ble_eq_true rfl) ?_
      | refine sl_load_blkn rfl rfl rfl ag_25 sz_25 (by repeat constructor) (Nat.le_of_ble_eq_true rfl) ?_
      | refine sl_load_ref rfl rfl rfl ag_25 sz_25 (Nat.le_of_ble_eq_true rfl) ?_
    refine sl_stp rfl rfl rfl rfl sz_25 rfl rfl rfl (by repeat constructor) (Nat.le_of_ble_eq_true rfl) ?_
    refine sl_nil ?_
    refine sl_region ?_
    refine sl_mv rfl rfl rfl ?_
    first
      | refine sl_inc rfl rfl rfl rfl (by omega) ?_
      | refine sl_add rfl rfl rfl rfl (by constructor <;> omega) ?_
      | refine sl_bin rfl rfl rfl rfl rfl ?_
    refine sl_as rfl rfl rfl ?_
    refine sl_nil ?_
    refine ⟨_, by omega, _, _, ?_, ?_, k + 1, stepW a l[k], ch, rfl, rfl, rfl, rfl, (by omega), (hs), (by rcases stepW_pot ha hx with h | h; rw [h]; exact hch; omega)⟩
    · exact ⟨rfl, by repeat constructor⟩
    · repeat constructor
  have hpl := pot_le a
  refine sw_exit ?_
  refine sw_seq ?_
  refine sl_region ?_
  refine sl_mv rfl rfl rfl ?_
  refine sl_bin rfl rfl rfl rfl rfl ?_
  refine sl_as rfl rfl rfl ?_
  refine sl_nil ?_
  refine sw_ret ⟨rfl, _, _, res_one rfl rfl, ?_, ⟨tt_of (decide_eq_true (by omega)), rfl⟩⟩
  repeat constructor

end Go.Proofs.YtipacoopapjdpaaDoor

/- Walks: printed by a program of this session out of its script IvalF. -/
namespace Go.Proofs.YtipacoopapjdpaaDoor
set_option linter.unusedVariables false
set_option linter.unusedSimpArgs false
set_option maxRecDepth 4000
set_option maxHeartbeats 4000000
open Go Go.RowKit SL


theorem has_top {n : Int} (hn : isI64 n) : hasI topI n = true := by unfold topI; rw [has_is]; exact decide_eq_true hn


theorem ivalNumbers_ok (lo hi n : Int) (h1 : isI64 lo) (h2 : isI64 hi) (hn : isI64 n) : FSpec Tryd.prog 4 [.val (.int .i64 lo), .val (.int .i64 hi), .val (.int .i64 n)] [] (fun d σ' => d = .val (.bool true) ∧ σ' = []) := by
  have ha : Nrm (ofI lo hi) := nrm_ok ⟨h1, h2⟩
  have hb : Nrm (ofI n n) := nrm_ok ⟨hn, hn⟩
  have en : ofI n n = ⟨true, n, n⟩ := ofI_is (Int.le_refl n)
  have hh : hasI (ofI lo hi) n = (decide (lo ≤ n) && decide (n ≤ hi)) := by rw [has_ofI, Bool.decide_and]
  refine spec_of_sw Tryd.func4 rfl ?_
  refine sw_seq ?_
  refine sl_region ?_
  refine sl_as rfl rfl rfl ?_
  refine sl_nil ?_
  refine sw_seq ?_
  refine sw_seq ?_
  refine sl_region ?_
  refine sl_callp rfl rfl cal_8 (known12_ok) ?_ ?_
  · repeat constructor
  refine sl_not rfl rfl rfl ?_
  refine sl_nil ?_
  refine sw_false rfl (rfl) ?_
  refine sw_skip ?_
  refine sw_seq ?_
  refine sl_region ?_
  refine sl_mv rfl rfl rfl ?_
  refine sl_mv rfl rfl rfl ?_
  refine sl_callp rfl rfl cal_13 (iof_ok lo hi) ?_ ?_
  · repeat constructor
  refine sl_alloc rfl rfl zd_25 (fun b7 => ?_)
  refine sl_stp rfl rfl rfl rfl sz_25 rfl rfl rfl (by repeat constructor) (Nat.le_of_ble_eq_true rfl) ?_
  refine sl_nil ?_
  refine sw_seq ?_
  refine sw_seq ?_
  refine sl_region ?_
  first
    | refine sl_load_rpn rfl rfl rfl ag_25 sz_25 (Nat.le_of_ble_eq_true rfl) ?_
    | refine sl_load_blkn rfl rfl rfl ag_25 sz_25 (by repeat constructor) (Nat.le_of_ble_eq_true rfl) ?_
    | refine sl_load_ref rfl rfl rfl ag_25 sz_25 (Nat.le_of_ble_eq_true rfl) ?_
  refine sl_mv rfl rfl rfl ?_
  refine sl_callp rfl rfl cal_14 (ihas_ok (ofI lo hi) n) ?_ ?_
  · repeat constructor
  refine sl_mv rfl rfl rfl ?_
  refine sl_mv rfl rfl rfl ?_
  refine sl_bin rfl rfl rfl rfl rfl ?_
  refine sl_mv rfl rfl rfl ?_
  refine sl_case_at 20 rfl (fun g1 => ?_) (fun g1 => ?_)
  · have g1 : decide (lo ≤ n) = true := g1
    refine sl_guard_y rfl rfl rfl g1 ?_
    refine sl_mv rfl rfl rfl ?_
    refine sl_guard_y rfl rfl rfl g1 ?_
    refine sl_mv rfl rfl rfl ?_
    refine sl_guard_y rfl rfl rfl g1 ?_
    refine sl_bin rfl rfl rfl rfl rfl ?_
    refine sl_pk_t rfl rfl rfl g1 rfl ?_
    refine sl_bool_ne rfl rfl rfl rfl u_4 ?_
    refine sl_set 25 (.val (.bool false)) (ff_bool (by rw [hh, g1]; rfl)) ?_
    refine sl_mv rfl rfl rfl ?_
    refine sl_guard_y rfl rfl rfl (rfl) ?_
    first
      | refine sl_fieldAddr_ptr rfl rfl rfl fo_25_0 ?_
      | refine sl_fieldAddr_rp rfl rfl rfl fo_25_0 ?_
      | refine sl_fieldAddr_ref rfl rfl rfl fo_25_0 ?_
    refine sl_guard_y rfl rfl rfl (rfl) ?_
    first
      | refine sl_load_rp1 rfl rfl rfl ag_4 rfl ?_
      | refine sl_load_blk1 rfl rfl rfl ag_4 (by repeat constructor) rfl ?_
    refine sl_guard_y rfl rfl rfl (rfl) ?_
    refine sl_mv rfl rfl rfl ?_
    refine sl_guard_y rfl rfl rfl (rfl) ?_
    refine sl_mv rfl rfl rfl ?_
    refine sl_guard_y rfl rfl rfl (rfl) ?_
    refine sl_bin rfl rfl rfl rfl rfl ?_
    refine sl_guard_y rfl rfl rfl (rfl) ?_
    refine sl_bool_ne rfl rfl rfl rfl u_4 ?_
    refine sl_set 32 (.val (.bool false)) (ff_bool ofI_some) ?_
    refine sl_pk_f rfl rfl rfl (rfl) rfl ?_
    refine sl_mv rfl rfl rfl ?_
    refine sl_guard_y rfl rfl rfl (rfl) ?_
    refine sl_callp rfl rfl cal_9 (iempty_ok) ?_ ?_
    · repeat constructor
    refine sl_guard_y rfl rfl rfl (rfl) ?_
    refine sl_mv rfl rfl rfl ?_
    refine sl_guard_y rfl rfl rfl (rfl) ?_
    refine sl_callp rfl rfl cal_14 (ihas_ok noIval n) ?_ ?_
    · repeat constructor
    refine sl_set 37 (.val (.bool false)) (rfl) ?_
    refine sl_pk_f rfl rfl rfl (rfl) rfl ?_
    refine sl_mv rfl rfl rfl ?_
    refine sl_guard_y rfl rfl rfl (rfl) ?_
    refine sl_callp rfl rfl cal_15 (itop_ok) ?_ ?_
    · repeat constructor
    refine sl_guard_y rfl rfl rfl (rfl) ?_
    refine sl_mv rfl rfl rfl ?_
    refine sl_guard_y rfl rfl rfl (rfl) ?_
    refine sl_callp rfl rfl cal_14 (ihas_ok topI n) ?_ ?_
    · repeat constructor
    refine sl_guard_y rfl rfl rfl (rfl) ?_
    refine sl_not rfl rfl rfl ?_
    refine sl_set 43 (.val (.bool false)) (ff_of (by rw [has_top hn]; rfl)) ?_
    refine sl_pk_f rfl rfl rfl (rfl) rfl ?_
    refine sl_nil ?_
    refine sw_false rfl (rfl) ?_
    refine sw_skip ?_
    refine sw_seq ?_
    refine sl_region ?_
    refine sl_mv rfl rfl rfl ?_
    refine sl_callp rfl rfl cal_16 (iconst_ok n) ?_ ?_
    · repeat constructor
    refine sl_alloc rfl rfl zd_25 (fun b8 => ?_)
    refine sl_stp rfl rfl rfl rfl sz_25 rfl rfl rfl (by repeat constructor) (Nat.le_of_ble_eq_true rfl) ?_
    refine sl_nil ?_
    refine sw_seq ?_
    refine sw_seq ?_
    refine sa_start [] mixed ?_
    refine sa_take 1 rfl rfl (by kernel_rfl) .nil (pu_mv rfl rfl) ?_
    refine sa_one 0 (by kernel_rfl) rfl ?_
    refine sl_load_blkn rfl rfl rfl ag_25 sz_25 (by repeat constructor) (Nat.le_of_ble_eq_true rfl) ?_
    refine sl_nil ⟨.nil, ?_⟩
    refine sa_one 2 (by kernel_rfl) rfl ?_
    refine sl_callp rfl rfl cal_14 (ihas_ok (ofI n n) n) ?_ ?_
    · repeat constructor
    refine sl_nil ⟨.nil, ?_⟩
    refine sa_take 3 rfl rfl (by kernel_rfl) .nil (pu_not rfl rfl) ?_
    refine sa_set 50 (.val (.bool false)) (ff_of (by rw [en, has_is]; simp)) ?_
    refine sa_take 4 rfl rfl (by kernel_rfl) .nil (pu_mv rfl rfl) ?_
    first
      | refine sa_take_y 5 rfl rfl rfl rfl (rfl) (by kernel_rfl) .nil (pu_fieldAddr_ptr rfl rfl fo_25_1) ?_
      | refine sa_take_y 5 rfl rfl rfl rfl (rfl) (by kernel_rfl) .nil (pu_fieldAddr_rp rfl rfl fo_25_1) ?_
      | refine sa_take_y 5 rfl rfl rfl rfl (rfl) (by kernel_rfl) .nil (pu_fieldAddr_ref rfl rfl fo_25_1) ?_
    first
      | refine sa_take_y 7 rfl rfl rfl rfl (rfl) (by kernel_rfl) .nil (pu_fieldAddr_ptr rfl rfl fo_25_2) ?_
      | refine sa_take_y 7 rfl rfl rfl rfl (rfl) (by kernel_rfl) .nil (pu_fieldAddr_rp rfl rfl fo_25_2) ?_
      | refine sa_take_y 7 rfl rfl rfl rfl (rfl) (by kernel_rfl) .nil (pu_fieldAddr_ref rfl rfl fo_25_2) ?_
    apply sa_conf [.p 6 (some 53) [] _, .p 8 (some 55) [] _] (I := [(6, []), (8, [])]) (nT := 2) rfl rfl rfl (by kernel_rfl) .nil
    · refine (.cons ?_ (.cons ?_ .nil))
      · apply StepOk.p
        iterate 3 rfl
        intro β σX hσX
        refine sl_guard_y rfl rfl rfl (rfl) ?_
        first
          | refine sl_load_rp1 rfl rfl rfl ag_2 rfl ?_
          | refine sl_load_blk1 rfl rfl rfl ag_2 (hσX _ (by repeat constructor)) rfl ?_
        exact sl_nil ⟨rfl, rfl, rfl, rfl⟩
      · apply StepOk.p
        iterate 3 rfl
        intro β σX hσX
        refine sl_guard_y rfl rfl rfl (rfl) ?_
        first
          | refine sl_load_rp1 rfl rfl rfl ag_2 rfl ?_
          | refine sl_load_blk1 rfl rfl rfl ag_2 (hσX _ (by repeat constructor)) rfl ?_
        exact sl_nil ⟨rfl, rfl, rfl, rfl⟩
    refine contT_p (contT_p (contT_nil ?_))
    refine sa_take_y 9 rfl rfl rfl rfl (rfl) (by kernel_rfl) .nil (pu_bin rfl rfl rfl rfl) ?_
    refine sa_set 56 (.val (.bool false)) (ff_of (by rw [en]; simp)) ?_
    refine sa_take 10 rfl rfl (by kernel_rfl) .nil (pu_pk_f rfl rfl (rfl) rfl) ?_
    refine sa_take 11 rfl rfl (by kernel_rfl) .nil (pu_mv rfl rfl) ?_
    refine sa_take_y 16 rfl rfl rfl rfl (rfl) (by kernel_rfl) .nil (pu_mv rfl rfl) ?_
    apply sa_conf [.p 12 (some 59) [] _, .p 13 (some 60) [] _, .p 14 (some 61) [0, 1] _, .p 15 (some 62) [] _] (I := [(12, []), (13, []), (14, [0, 1]), (15, [])]) (nT := 4) rfl rfl rfl (by kernel_rfl) .nil
    · refine (.cons ?_ (.cons ?_ (.cons ?_ (.cons ?_ .nil))))
      · apply StepOk.p
        iterate 3 rfl
        intro β σX hσX
        refine sl_guard_y rfl rfl rfl (rfl) ?_
        first
          | refine sl_load_rpn rfl rfl rfl ag_25 sz_25 (Nat.le_of_ble_eq_true rfl) ?_
          | refine sl_load_blkn rfl rfl rfl ag_25 sz_25 (hσX _ (by repeat constructor)) (Nat.le_of_ble_eq_true rfl) ?_
          | refine sl_load_ref rfl rfl rfl ag_25 sz_25 (Nat.le_of_ble_eq_true rfl) ?_
        exact sl_nil ⟨rfl, rfl, rfl, rfl⟩
      · apply StepOk.p
        iterate 3 rfl
        intro β σX hσX
        refine sl_guard_y rfl rfl rfl (rfl) ?_
        first
          | refine sl_load_rpn rfl rfl rfl ag_25 sz_25 (Nat.le_of_ble_eq_true rfl) ?_
          | refine sl_load_blkn rfl rfl rfl ag_25 sz_25 (hσX _ (by repeat constructor)) (Nat.le_of_ble_eq_true rfl) ?_
          | refine sl_load_ref rfl rfl rfl ag_25 sz_25 (Nat.le_of_ble_eq_true rfl) ?_
        exact sl_nil ⟨rfl, rfl, rfl, rfl⟩
      · apply StepOk.p
        iterate 3 rfl
        intro β σX hσX
        show SL _ _ _ _ (sput (sput _ (some 59) _) (some 60) _) _ _
        refine sl_guard_y rfl rfl rfl (rfl) ?_
        refine sl_callp rfl rfl cal_12 (ileq_ok (ofI n n) (ofI lo hi)) ?_ ?_
        · repeat constructor
        exact sl_nil ⟨rfl, rfl, rfl, rfl⟩
      · apply StepOk.p
        iterate 3 rfl
        intro β σX hσX
        refine sl_guard_y rfl rfl rfl (rfl) ?_
        first
          | refine sl_load_rpn rfl rfl rfl ag_25 sz_25 (Nat.le_of_ble_eq_true rfl) ?_
          | refine sl_load_blkn rfl rfl rfl ag_25 sz_25 (hσX _ (by repeat constructor)) (Nat.le_of_ble_eq_true rfl) ?_
          | refine sl_load_ref rfl rfl rfl ag_25 sz_25 (Nat.le_of_ble_eq_true rfl) ?_
        exact sl_nil ⟨rfl, rfl, rfl, rfl⟩
    refine contT_p (contT_p (contT_p (contT_p (contT_nil ?_))))
    refine sa_one 17 (by kernel_rfl) rfl ?_
    refine sl_guard_y rfl rfl rfl (rfl) ?_
    refine sl_callp rfl rfl cal_14 (ihas_ok (ofI lo hi) n) ?_ ?_
    · repeat constructor
    refine sl_nil ⟨.nil, ?_⟩
    refine sa_take_y 18 rfl rfl rfl rfl (rfl) (by kernel_rfl) .nil (pu_bool_ne rfl rfl rfl u_4) ?_
    refine sa_set 65 (.val (.bool false)) (ff_bool (leq_const h1 h2 hn)) ?_
    refine sa_take 19 rfl rfl (by kernel_rfl) .nil (pu_pk_f rfl rfl (rfl) rfl) ?_
    refine sa_done (by kernel_rfl) ?_
    refine sw_false rfl (rfl) ?_
    refine sw_skip ?_
    refine sw_seq ?_
    refine sa_start [] mixed ?_
    first
      | refine sa_take 3 rfl rfl (by kernel_rfl) .nil (pu_fieldAddr_ptr rfl rfl fo_25_0) ?_
      | refine sa_take 3 rfl rfl (by kernel_rfl) .nil (pu_fieldAddr_rp rfl rfl fo_25_0) ?_
      | refine sa_take 3 rfl rfl (by kernel_rfl) .nil (pu_fieldAddr_ref rfl rfl fo_25_0) ?_
    apply sa_conf [.p 0 (some 67) [] _, .p 1 (some 68) [0] _, .p 2 (some 69) [1] _, .p 4 (some 71) [] _, .p 5 (some 72) [3] _] (I := [(0, []), (1, [0]), (2, [1]), (4, []), (5, [3])]) (nT := 5) rfl rfl rfl (by kernel_rfl) .nil
    · refine (.cons ?_ (.cons ?_ (.cons ?_ (.cons ?_ (.cons ?_ .nil)))))
      · apply StepOk.p
        iterate 3 rfl
        intro β σX hσX
        first
          | refine sl_load_rpn rfl rfl rfl ag_25 sz_25 (Nat.le_of_ble_eq_true rfl) ?_
          | refine sl_load_blkn rfl rfl rfl ag_25 sz_25 (hσX _ (by repeat constructor)) (Nat.le_of_ble_eq_true rfl) ?_
          | refine sl_load_ref rfl rfl rfl ag_25 sz_25 (Nat.le_of_ble_eq_true rfl) ?_
        exact sl_nil ⟨rfl, rfl, rfl, rfl⟩
      · apply StepOk.p
        iterate 3 rfl
        intro β σX hσX
        show SL _ _ _ _ (sput _ (some 67) _) _ _
        refine sl_callp rfl rfl cal_17 (itext_ok (ofI lo hi) ha.ok) ?_ ?_
        · repeat constructor
        exact sl_nil ⟨rfl, rfl, rfl, rfl⟩
      · apply StepOk.p
        iterate 3 rfl
        intro β σX hσX
        show SL _ _ _ _ (sput _ (some 68) _) _ _
        refine sl_str rfl rfl rfl rfl rfl ?_
        exact sl_nil ⟨rfl, rfl, rfl, rfl⟩
      · apply StepOk.p
        iterate 3 rfl
        intro β σX hσX
        first
          | refine sl_load_rp1 rfl rfl rfl ag_4 rfl ?_
          | refine sl_load_blk1 rfl rfl rfl ag_4 (hσX _ (by repeat constructor)) rfl ?_
        exact sl_nil ⟨rfl, rfl, rfl, rfl⟩
      · apply StepOk.p
        iterate 3 rfl
        intro β σX hσX
        show SL _ _ _ _ (sput _ (some 71) _) _ _
        refine sl_not rfl rfl rfl ?_
        exact sl_nil ⟨rfl, rfl, rfl, rfl⟩
    refine contT_p (contT_p (contT_p (contT_p (contT_p (contT_nil ?_)))))
    refine sa_take 6 rfl rfl (by kernel_rfl) .nil (pu_bool_eq rfl rfl rfl u_4) ?_
    refine sa_set 73 (.val (.bool true)) (tt_bool (text_ofI_none h1 h2)) ?_
    refine sa_take 7 rfl rfl (by kernel_rfl) .nil (pu_mv rfl rfl) ?_
    refine sa_take_y 11 rfl rfl rfl rfl (rfl) (by kernel_rfl) .nil (pu_mv rfl rfl) ?_
    refine sa_take_y 12 rfl rfl rfl rfl (rfl) (by kernel_rfl) .nil (pu_bin rfl rfl rfl rfl) ?_
    refine sa_one 8 (by kernel_rfl) rfl ?_
    refine sl_guard_y rfl rfl rfl (rfl) ?_
    refine sl_load_blkn rfl rfl rfl ag_25 sz_25 (by repeat constructor) (Nat.le_of_ble_eq_true rfl) ?_
    refine sl_nil ⟨.nil, ?_⟩
    refine sa_one 9 (by kernel_rfl) rfl ?_
    refine sl_guard_y rfl rfl rfl (rfl) ?_
    refine sl_callp rfl rfl cal_17 (itext_ok (ofI lo hi) ha.ok) ?_ ?_
    · repeat constructor
    refine sl_nil ⟨.nil, ?_⟩
    refine sa_take_y 10 rfl rfl rfl rfl (rfl) (by kernel_rfl) .nil (pu_str rfl rfl rfl rfl) ?_
    refine sa_take_y 13 rfl rfl rfl rfl (rfl) (by kernel_rfl) .nil (pu_mv rfl rfl) ?_
    refine sa_case_at 80 rfl (fun g2 => ?_) (fun g2 => ?_)
    · have g2 : decide (lo = -9223372036854775808) = true := g2
      refine sa_take_y 14 rfl rfl rfl rfl g2 (by kernel_rfl) .nil (pu_mv rfl rfl) ?_
      refine sa_take_y 15 rfl rfl rfl rfl g2 (by kernel_rfl) .nil (pu_bin rfl rfl rfl rfl) ?_
      refine sa_take_y 16 rfl rfl rfl rfl (rfl) (by kernel_rfl) .nil (pu_pk_t rfl rfl g2 rfl) ?_
      refine sa_take_y 17 rfl rfl rfl rfl (rfl) (by kernel_rfl) .nil (pu_bool_eq rfl rfl rfl u_4) ?_
      refine sa_set 84 (.val (.bool true)) (tt_bool (by rw [text_ofI_all h1 h2, g2]; rfl)) ?_
      refine sa_take 18 rfl rfl (by kernel_rfl) .nil (pu_pk_t rfl rfl (rfl) rfl) ?_
      refine sa_take 19 rfl rfl (by kernel_rfl) .nil (pu_mv rfl rfl) ?_
      first
        | refine sa_take_y 20 rfl rfl rfl rfl (rfl) (by kernel_rfl) .nil (pu_fieldAddr_ptr rfl rfl fo_25_0) ?_
        | refine sa_take_y 20 rfl rfl rfl rfl (rfl) (by kernel_rfl) .nil (pu_fieldAddr_rp rfl rfl fo_25_0) ?_
        | refine sa_take_y 20 rfl rfl rfl rfl (rfl) (by kernel_rfl) .nil (pu_fieldAddr_ref rfl rfl fo_25_0) ?_
      refine sa_one 21 (by kernel_rfl) rfl ?_
      refine sl_guard_y rfl rfl rfl (rfl) ?_
      refine sl_load_blk1 rfl rfl rfl ag_4 (by repeat constructor) rfl ?_
      refine sl_nil ⟨.nil, ?_⟩
      refine sa_take_y 22 rfl rfl rfl rfl (rfl) (by kernel_rfl) .nil (pu_mv rfl rfl) ?_
      refine sa_case_at 89 rfl (fun g3 => ?_) (fun g3 => ?_)
      · refine sa_take_n 23 rfl rfl rfl rfl g3 (by kernel_rfl) .nil ?_
        refine sa_take_n 24 rfl rfl rfl rfl g3 (by kernel_rfl) .nil ?_
        refine sa_take_n 25 rfl rfl rfl rfl g3 (by kernel_rfl) .nil ?_
        refine sa_take_y 26 rfl rfl rfl rfl (rfl) (by kernel_rfl) .nil (pu_pk_t rfl rfl g3 rfl) ?_
        refine sa_take 27 rfl rfl (by kernel_rfl) .nil (pu_pk_t rfl rfl (rfl) rfl) ?_
        refine sa_one 28 (by kernel_rfl) rfl ?_
        refine sl_as rfl rfl rfl ?_
        refine sl_nil ⟨.nil, ?_⟩
        refine sa_done (by kernel_rfl) ?_
        refine sw_ret ⟨rfl, _, _, res_one rfl rfl, ?_, ⟨rfl, rfl⟩⟩
        repeat constructor
      refine sa_take_y 24 rfl rfl rfl rfl g3 (by kernel_rfl) .nil (pu_bd rfl .nil bi_25 zd_25 rfl) ?_
      refine sa_one 23 (by kernel_rfl) rfl ?_
      refine sl_guard_y rfl rfl rfl g3 ?_
      refine sl_load_blkn rfl rfl rfl ag_25 sz_25 (by repeat constructor) (Nat.le_of_ble_eq_true rfl) ?_
      refine sl_nil ⟨.nil, ?_⟩
      refine sa_take_y 25 rfl rfl rfl rfl g3 (by kernel_rfl) .nil (pu_struct_eq rfl rfl rfl ag_25 eg_25 ek_25 rfl) ?_
      refine sa_set 92 (.val (.bool true)) (tt_ivl (x := ofI lo hi) (y := noIval) (eqI_iff.mp (by rw [eqI_noN ha]; have g3 : (ofI lo hi).some = false := g3; rw [g3]; rfl))) ?_
      refine sa_take_y 26 rfl rfl rfl rfl (rfl) (by kernel_rfl) .nil (pu_pk_f rfl rfl g3 rfl) ?_
      refine sa_take 27 rfl rfl (by kernel_rfl) .nil (pu_pk_t rfl rfl (rfl) rfl) ?_
      refine sa_one 28 (by kernel_rfl) rfl ?_
      refine sl_as rfl rfl rfl ?_
      refine sl_nil ⟨.nil, ?_⟩
      refine sa_done (by kernel_rfl) ?_
      refine sw_ret ⟨rfl, _, _, res_one rfl rfl, ?_, ⟨rfl, rfl⟩⟩
      repeat constructor
    have g2 : decide (lo = -9223372036854775808) = false := g2
    refine sa_take_n 14 rfl rfl rfl rfl g2 (by kernel_rfl) .nil ?_
    refine sa_take_n 15 rfl rfl rfl rfl g2 (by kernel_rfl) .nil ?_
    refine sa_take_y 16 rfl rfl rfl rfl (rfl) (by kernel_rfl) .nil (pu_pk_f rfl rfl g2 rfl) ?_
    refine sa_take_y 17 rfl rfl rfl rfl (rfl) (by kernel_rfl) .nil (pu_bool_eq rfl rfl rfl u_4) ?_
    refine sa_set 84 (.val (.bool true)) (tt_bool (by rw [text_ofI_all h1 h2, g2]; rfl)) ?_
    refine sa_take 18 rfl rfl (by kernel_rfl) .nil (pu_pk_t rfl rfl (rfl) rfl) ?_
    refine sa_take 19 rfl rfl (by kernel_rfl) .nil (pu_mv rfl rfl) ?_
    first
      | refine sa_take_y 20 rfl rfl rfl rfl (rfl) (by kernel_rfl) .nil (pu_fieldAddr_ptr rfl rfl fo_25_0) ?_
      | refine sa_take_y 20 rfl rfl rfl rfl (rfl) (by kernel_rfl) .nil (pu_fieldAddr_rp rfl rfl fo_25_0) ?_
      | refine sa_take_y 20 rfl rfl rfl rfl (rfl) (by kernel_rfl) .nil (pu_fieldAddr_ref rfl rfl fo_25_0) ?_
    refine sa_one 21 (by kernel_rfl) rfl ?_
    refine sl_guard_y rfl rfl rfl (rfl) ?_
    refine sl_load_blk1 rfl rfl rfl ag_4 (by repeat constructor) rfl ?_
    refine sl_nil ⟨.nil, ?_⟩
    refine sa_take_y 22 rfl rfl rfl rfl (rfl) (by kernel_rfl) .nil (pu_mv rfl rfl) ?_
    refine sa_case_at 89 rfl (fun g3 => ?_) (fun g3 => ?_)
    · refine sa_take_n 23 rfl rfl rfl rfl g3 (by kernel_rfl) .nil ?_
      refine sa_take_n 24 rfl rfl rfl rfl g3 (by kernel_rfl) .nil ?_
      refine sa_take_n 25 rfl rfl rfl rfl g3 (by kernel_rfl) .nil ?_
      refine sa_take_y 26 rfl rfl rfl rfl (rfl) (by kernel_rfl) .nil (pu_pk_t rfl rfl g3 rfl) ?_
      refine sa_take 27 rfl rfl (by kernel_rfl) .nil (pu_pk_t rfl rfl (rfl) rfl) ?_
      refine sa_one 28 (by kernel_rfl) rfl ?_
      refine sl_as rfl rfl rfl ?_
      refine sl_nil ⟨.nil, ?_⟩
      refine sa_done (by kernel_rfl) ?_
      refine sw_ret ⟨rfl, _, _, res_one rfl rfl, ?_, ⟨rfl, rfl⟩⟩
      repeat constructor
    refine sa_take_y 24 rfl rfl rfl rfl g3 (by kernel_rfl) .nil (pu_bd rfl .nil bi_25 zd_25 rfl) ?_
    refine sa_one 23 (by kernel_rfl) rfl ?_
    refine sl_guard_y rfl rfl rfl g3 ?_
    refine sl_load_blkn rfl rfl rfl ag_25 sz_25 (by repeat constructor) (Nat.le_of_ble_eq_true rfl) ?_
    refine sl_nil ⟨.nil, ?_⟩
    refine sa_take_y 25 rfl rfl rfl rfl g3 (by kernel_rfl) .nil (pu_struct_eq rfl rfl rfl ag_25 eg_25 ek_25 rfl) ?_
    refine sa_set 92 (.val (.bool true)) (tt_ivl (x := ofI lo hi) (y := noIval) (eqI_iff.mp (by rw [eqI_noN ha]; have g3 : (ofI lo hi).some = false := g3; rw [g3]; rfl))) ?_
    refine sa_take_y 26 rfl rfl rfl rfl (rfl) (by kernel_rfl) .nil (pu_pk_f rfl rfl g3 rfl) ?_
    refine sa_take 27 rfl rfl (by kernel_rfl) .nil (pu_pk_t rfl rfl (rfl) rfl) ?_
    refine sa_one 28 (by kernel_rfl) rfl ?_
    refine sl_as rfl rfl rfl ?_
    refine sl_nil ⟨.nil, ?_⟩
    refine sa_done (by kernel_rfl) ?_
    refine sw_ret ⟨rfl, _, _, res_one rfl rfl, ?_, ⟨rfl, rfl⟩⟩
    repeat constructor
  have g1 : decide (lo ≤ n) = false := g1
  refine sl_guard_n rfl rfl rfl g1 ?_
  refine sl_guard_n rfl rfl rfl g1 ?_
  refine sl_guard_n rfl rfl rfl g1 ?_
  refine sl_pk_f rfl rfl rfl g1 rfl ?_
  refine sl_bool_ne rfl rfl rfl rfl u_4 ?_
  refine sl_set 25 (.val (.bool false)) (ff_bool (by rw [hh, g1]; rfl)) ?_
  refine sl_mv rfl rfl rfl ?_
  refine sl_guard_y rfl rfl rfl (rfl) ?_
  first
    | refine sl_fieldAddr_ptr rfl rfl rfl fo_25_0 ?_
    | refine sl_fieldAddr_rp rfl rfl rfl fo_25_0 ?_
    | refine sl_fieldAddr_ref rfl rfl rfl fo_25_0 ?_
  refine sl_guard_y rfl rfl rfl (rfl) ?_
  first
    | refine sl_load_rp1 rfl rfl rfl ag_4 rfl ?_
    | refine sl_load_blk1 rfl rfl rfl ag_4 (by repeat constructor) rfl ?_
  refine sl_guard_y rfl rfl rfl (rfl) ?_
  refine sl_mv rfl rfl rfl ?_
  refine sl_guard_y rfl rfl rfl (rfl) ?_
  refine sl_mv rfl rfl rfl ?_
  refine sl_guard_y rfl rfl rfl (rfl) ?_
  refine sl_bin rfl rfl rfl rfl rfl ?_
  refine sl_guard_y rfl rfl rfl (rfl) ?_
  refine sl_bool_ne rfl rfl rfl rfl u_4 ?_
  refine sl_set 32 (.val (.bool false)) (ff_bool ofI_some) ?_
  refine sl_pk_f rfl rfl rfl (rfl) rfl ?_
  refine sl_mv rfl rfl rfl ?_
  refine sl_guard_y rfl rfl rfl (rfl) ?_
  refine sl_callp rfl rfl cal_9 (iempty_ok) ?_ ?_
  · repeat constructor
  refine sl_guard_y rfl rfl rfl (rfl) ?_
  refine sl_mv rfl rfl rfl ?_
  refine sl_guard_y rfl rfl rfl (rfl) ?_
  refine sl_callp rfl rfl cal_14 (ihas_ok noIval n) ?_ ?_
  · repeat constructor
  refine sl_set 37 (.val (.bool false)) (rfl) ?_
  refine sl_pk_f rfl rfl rfl (rfl) rfl ?_
  refine sl_mv rfl rfl rfl ?_
  refine sl_guard_y rfl rfl rfl (rfl) ?_
  refine sl_callp rfl rfl cal_15 (itop_ok) ?_ ?_
  · repeat constructor
  refine sl_guard_y rfl rfl rfl (rfl) ?_
  refine sl_mv rfl rfl rfl ?_
  refine sl_guard_y rfl rfl rfl (rfl) ?_
  refine sl_callp rfl rfl cal_14 (ihas_ok topI n) ?_ ?_
  · repeat constructor
  refine sl_guard_y rfl rfl rfl (rfl) ?_
  refine sl_not rfl rfl rfl ?_
  refine sl_set 43 (.val (.bool false)) (ff_of (by rw [has_top hn]; rfl)) ?_
  refine sl_pk_f rfl rfl rfl (rfl) rfl ?_
  refine sl_nil ?_
  refine sw_false rfl (rfl) ?_
  refine sw_skip ?_
  refine sw_seq ?_
  refine sl_region ?_
  refine sl_mv rfl rfl rfl ?_
  refine sl_callp rfl rfl cal_16 (iconst_ok n) ?_ ?_
  · repeat constructor
  refine sl_alloc rfl rfl zd_25 (fun b8 => ?_)
  refine sl_stp rfl rfl rfl rfl sz_25 rfl rfl rfl (by repeat constructor) (Nat.le_of_ble_eq_true rfl) ?_
  refine sl_nil ?_
  refine sw_seq ?_
  refine sw_seq ?_
  refine sa_start [] mixed ?_
  refine sa_take 1 rfl rfl (by kernel_rfl) .nil (pu_mv rfl rfl) ?_
  refine sa_one 0 (by kernel_rfl) rfl ?_
  refine sl_load_blkn rfl rfl rfl ag_25 sz_25 (by repeat constructor) (Nat.le_of_ble_eq_true rfl) ?_
  refine sl_nil ⟨.nil, ?_⟩
  refine sa_one 2 (by kernel_rfl) rfl ?_
  refine sl_callp rfl rfl cal_14 (ihas_ok (ofI n n) n) ?_ ?_
  · repeat constructor
  refine sl_nil ⟨.nil, ?_⟩
  refine sa_take 3 rfl rfl (by kernel_rfl) .nil (pu_not rfl rfl) ?_
  refine sa_set 50 (.val (.bool false)) (ff_of (by rw [en, has_is]; simp)) ?_
  refine sa_take 4 rfl rfl (by kernel_rfl) .nil (pu_mv rfl rfl) ?_
  first
    | refine sa_take_y 5 rfl rfl rfl rfl (rfl) (by kernel_rfl) .nil (pu_fieldAddr_ptr rfl rfl fo_25_1) ?_
    | refine sa_take_y 5 rfl rfl rfl rfl (rfl) (by kernel_rfl) .nil (pu_fieldAddr_rp rfl rfl fo_25_1) ?_
    | refine sa_take_y 5 rfl rfl rfl rfl (rfl) (by kernel_rfl) .nil (pu_fieldAddr_ref rfl rfl fo_25_1) ?_
  first
    | refine sa_take_y 7 rfl rfl rfl rfl (rfl) (by kernel_rfl) .nil (pu_fieldAddr_ptr rfl rfl fo_25_2) ?_
    | refine sa_take_y 7 rfl rfl rfl rfl (rfl) (by kernel_rfl) .nil (pu_fieldAddr_rp rfl rfl fo_25_2) ?_
    | refine sa_take_y 7 rfl rfl rfl rfl (rfl) (by kernel_rfl) .nil (pu_fieldAddr_ref rfl rfl fo_25_2) ?_
  apply sa_conf [.p 6 (some 53) [] _, .p 8 (some 55) [] _] (I := [(6, []), (8, [])]) (nT := 2) rfl rfl rfl (by kernel_rfl) .nil
  · refine (.cons ?_ (.cons ?_ .nil))
    · apply StepOk.p
      iterate 3 rfl
      intro β σX hσX
      refine sl_guard_y rfl rfl rfl (rfl) ?_
      first
        | refine sl_load_rp1 rfl rfl rfl ag_2 rfl ?_
        | refine sl_load_blk1 rfl rfl rfl ag_2 (hσX _ (by repeat constructor)) rfl ?_
      exact sl_nil ⟨rfl, rfl, rfl, rfl⟩
    · apply StepOk.p
      iterate 3 rfl
      intro β σX hσX
      refine sl_guard_y rfl rfl rfl (rfl) ?_
      first
        | refine sl_load_rp1 rfl rfl rfl ag_2 rfl ?_
        | refine sl_load_blk1 rfl rfl rfl ag_2 (hσX _ (by repeat constructor)) rfl ?_
      exact sl_nil ⟨rfl, rfl, rfl, rfl⟩
  refine contT_p (contT_p (contT_nil ?_))
  refine sa_take_y 9 rfl rfl rfl rfl (rfl) (by kernel_rfl) .nil (pu_bin rfl rfl rfl rfl) ?_
  refine sa_set 56 (.val (.bool false)) (ff_of (by rw [en]; simp)) ?_
  refine sa_take 10 rfl rfl (by kernel_rfl) .nil (pu_pk_f rfl rfl (rfl) rfl) ?_
  refine sa_take 11 rfl rfl (by kernel_rfl) .nil (pu_mv rfl rfl) ?_
  refine sa_take_y 16 rfl rfl rfl rfl (rfl) (by kernel_rfl) .nil (pu_mv rfl rfl) ?_
  apply sa_conf [.p 12 (some 59) [] _, .p 13 (some 60) [] _, .p 14 (some 61) [0, 1] _, .p 15 (some 62) [] _] (I := [(12, []), (13, []), (14, [0, 1]), (15, [])]) (nT := 4) rfl rfl rfl (by kernel_rfl) .nil
  · refine (.cons ?_ (.cons ?_ (.cons ?_ (.cons ?_ .nil))))
    · apply StepOk.p
      iterate 3 rfl
      intro β σX hσX
      refine sl_guard_y rfl rfl rfl (rfl) ?_
      first
        | refine sl_load_rpn rfl rfl rfl ag_25 sz_25 (Nat.le_of_ble_eq_true rfl) ?_
        | refine sl_load_blkn rfl rfl rfl ag_25 sz_25 (hσX _ (by repeat constructor)) (Nat.le_of_ble_eq_true rfl) ?_
        | refine sl_load_ref rfl rfl rfl ag_25 sz_25 (Nat.le_of_ble_eq_true rfl) ?_
      exact sl_nil ⟨rfl, rfl, rfl, rfl⟩
    · apply StepOk.p
      iterate 3 rfl
      intro β σX hσX
      refine sl_guard_y rfl rfl rfl (rfl) ?_
      first
        | refine sl_load_rpn rfl rfl rfl ag_25 sz_25 (Nat.le_of_ble_eq_true rfl) ?_
        | refine sl_load_blkn rfl rfl rfl ag_25 sz_25 (hσX _ (by repeat constructor)) (Nat.le_of_ble_eq_true rfl) ?_
        | refine sl_load_ref rfl rfl rfl ag_25 sz_25 (Nat.le_of_ble_eq_true rfl) ?_
      exact sl_nil ⟨rfl, rfl, rfl, rfl⟩
    · apply StepOk.p
      iterate 3 rfl
      intro β σX hσX
      show SL _ _ _ _ (sput (sput _ (some 59) _) (some 60) _) _ _
      refine sl_guard_y rfl rfl rfl (rfl) ?_
      refine sl_callp rfl rfl cal_12 (ileq_ok (ofI n n) (ofI lo hi)) ?_ ?_
      · repeat constructor
      exact sl_nil ⟨rfl, rfl, rfl, rfl⟩
    · apply StepOk.p
      iterate 3 rfl
      intro β σX hσX
      refine sl_guard_y rfl rfl rfl (rfl) ?_
      first
        | refine sl_load_rpn rfl rfl rfl ag_25 sz_25 (Nat.le_of_ble_eq_true rfl) ?_
        | refine sl_load_blkn rfl rfl rfl ag_25 sz_25 (hσX _ (by repeat constructor)) (Nat.le_of_ble_eq_true rfl) ?_
        | refine sl_load_ref rfl rfl rfl ag_25 sz_25 (Nat.le_of_ble_eq_true rfl) ?_
      exact sl_nil ⟨rfl, rfl, rfl, rfl⟩
  refine contT_p (contT_p (contT_p (contT_p (contT_nil ?_))))
  refine sa_one 17 (by kernel_rfl) rfl ?_
  refine sl_guard_y rfl rfl rfl (rfl) ?_
  refine sl_callp rfl rfl cal_14 (ihas_ok (ofI lo hi) n) ?_ ?_
  · repeat constructor
  refine sl_nil ⟨.nil, ?_⟩
  refine sa_take_y 18 rfl rfl rfl rfl (rfl) (by kernel_rfl) .nil (pu_bool_ne rfl rfl rfl u_4) ?_
  refine sa_set 65 (.val (.bool false)) (ff_bool (leq_const h1 h2 hn)) ?_
  refine sa_take 19 rfl rfl (by kernel_rfl) .nil (pu_pk_f rfl rfl (rfl) rfl) ?_
  refine sa_done (by kernel_rfl) ?_
  refine sw_false rfl (rfl) ?_
  refine sw_skip ?_
  refine sw_seq ?_
  refine sa_start [] mixed ?_
  first
    | refine sa_take 3 rfl rfl (by kernel_rfl) .nil (pu_fieldAddr_ptr rfl rfl fo_25_0) ?_
    | refine sa_take 3 rfl rfl (by kernel_rfl) .nil (pu_fieldAddr_rp rfl rfl fo_25_0) ?_
    | refine sa_take 3 rfl rfl (by kernel_rfl) .nil (pu_fieldAddr_ref rfl rfl fo_25_0) ?_
  apply sa_conf [.p 0 (some 67) [] _, .p 1 (some 68) [0] _, .p 2 (some 69) [1] _, .p 4 (some 71) [] _, .p 5 (some 72) [3] _] (I := [(0, []), (1, [0]), (2, [1]), (4, []), (5, [3])]) (nT := 5) rfl rfl rfl (by kernel_rfl) .nil
  · refine (.cons ?_ (.cons ?_ (.cons ?_ (.cons ?_ (.cons ?_ .nil)))))
    · apply StepOk.p
      iterate 3 rfl
      intro β σX hσX
      first
        | refine sl_load_rpn rfl rfl rfl ag_25 sz_25 (Nat.le_of_ble_eq_true rfl) ?_
        | refine sl_load_blkn rfl rfl rfl ag_25 sz_25 (hσX _ (by repeat constructor)) (Nat.le_of_ble_eq_true rfl) ?_
        | refine sl_load_ref rfl rfl rfl ag_25 sz_25 (Nat.le_of_ble_eq_true rfl) ?_
      exact sl_nil ⟨rfl, rfl, rfl, rfl⟩
    · apply StepOk.p
      iterate 3 rfl
      intro β σX hσX
      show SL _ _ _ _ (sput _ (some 67) _) _ _
      refine sl_callp rfl rfl cal_17 (itext_ok (ofI lo hi) ha.ok) ?_ ?_
      · repeat constructor
      exact sl_nil ⟨rfl, rfl, rfl, rfl⟩
    · apply StepOk.p
      iterate 3 rfl
      intro β σX hσX
      show SL _ _ _ _ (sput _ (some 68) _) _ _
      refine sl_str rfl rfl rfl rfl rfl ?_
      exact sl_nil ⟨rfl, rfl, rfl, rfl⟩
    · apply StepOk.p
      iterate 3 rfl
      intro β σX hσX
      first
        | refine sl_load_rp1 rfl rfl rfl ag_4 rfl ?_
        | refine sl_load_blk1 rfl rfl rfl ag_4 (hσX _ (by repeat constructor)) rfl ?_
      exact sl_nil ⟨rfl, rfl, rfl, rfl⟩
    · apply StepOk.p
      iterate 3 rfl
      intro β σX hσX
      show SL _ _ _ _ (sput _ (some 71) _) _ _
      refine sl_not rfl rfl rfl ?_
      exact sl_nil ⟨rfl, rfl, rfl, rfl⟩
  refine contT_p (contT_p (contT_p (contT_p (contT_p (contT_nil ?_)))))
  refine sa_take 6 rfl rfl (by kernel_rfl) .nil (pu_bool_eq rfl rfl rfl u_4) ?_
  refine sa_set 73 (.val (.bool true)) (tt_bool (text_ofI_none h1 h2)) ?_
  refine sa_take 7 rfl rfl (by kernel_rfl) .nil (pu_mv rfl rfl) ?_
  refine sa_take_y 11 rfl rfl rfl rfl (rfl) (by kernel_rfl) .nil (pu_mv rfl rfl) ?_
  refine sa_take_y 12 rfl rfl rfl rfl (rfl) (by kernel_rfl) .nil (pu_bin rfl rfl rfl rfl) ?_
  refine sa_one 8 (by kernel_rfl) rfl ?_
  refine sl_guard_y rfl rfl rfl (rfl) ?_
  refine sl_load_blkn rfl rfl rfl ag_25 sz_25 (by repeat constructor) (Nat.le_of_ble_eq_true rfl) ?_
  refine sl_nil ⟨.nil, ?_⟩
  refine sa_one 9 (by kernel_rfl) rfl ?_
  refine sl_guard_y rfl rfl rfl (rfl) ?_
  refine sl_callp rfl rfl cal_17 (itext_ok (ofI lo hi) ha.ok) ?_ ?_
  · repeat constructor
  refine sl_nil ⟨.nil, ?_⟩
  refine sa_take_y 10 rfl rfl rfl rfl (rfl) (by kernel_rfl) .nil (pu_str rfl rfl rfl rfl) ?_
  refine sa_take_y 13 rfl rfl rfl rfl (rfl) (by kernel_rfl) .nil (pu_mv rfl rfl) ?_
  refine sa_case_at 80 rfl (fun g2 => ?_) (fun g2 => ?_)
  · have g2 : decide (lo = -9223372036854775808) = true := g2
    refine sa_take_y 14 rfl rfl rfl rfl g2 (by kernel_rfl) .nil (pu_mv rfl rfl) ?_
    refine sa_take_y 15 rfl rfl rfl rfl g2 (by kernel_rfl) .nil (pu_bin rfl rfl rfl rfl) ?_
    refine sa_take_y 16 rfl rfl rfl rfl (rfl) (by kernel_rfl) .nil (pu_pk_t rfl rfl g2 rfl) ?_
    refine sa_take_y 17 rfl rfl rfl rfl (rfl) (by kernel_rfl) .nil (pu_bool_eq rfl rfl rfl u_4) ?_
    refine sa_set 84 (.val (.bool true)) (tt_bool (by rw [text_ofI_all h1 h2, g2]; rfl)) ?_
    refine sa_take 18 rfl rfl (by kernel_rfl) .nil (pu_pk_t rfl rfl (rfl) rfl) ?_
    refine sa_take 19 rfl rfl (by kernel_rfl) .nil (pu_mv rfl rfl) ?_
    first
      | refine sa_take_y 20 rfl rfl rfl rfl (rfl) (by kernel_rfl) .nil (pu_fieldAddr_ptr rfl rfl fo_25_0) ?_
      | refine sa_take_y 20 rfl rfl rfl rfl (rfl) (by kernel_rfl) .nil (pu_fieldAddr_rp rfl rfl fo_25_0) ?_
      | refine sa_take_y 20 rfl rfl rfl rfl (rfl) (by kernel_rfl) .nil (pu_fieldAddr_ref rfl rfl fo_25_0) ?_
    refine sa_one 21 (by kernel_rfl) rfl ?_
    refine sl_guard_y rfl rfl rfl (rfl) ?_
    refine sl_load_blk1 rfl rfl rfl ag_4 (by repeat constructor) rfl ?_
    refine sl_nil ⟨.nil, ?_⟩
    refine sa_take_y 22 rfl rfl rfl rfl (rfl) (by kernel_rfl) .nil (pu_mv rfl rfl) ?_
    refine sa_case_at 89 rfl (fun g3 => ?_) (fun g3 => ?_)
    · refine sa_take_n 23 rfl rfl rfl rfl g3 (by kernel_rfl) .nil ?_
      refine sa_take_n 24 rfl rfl rfl rfl g3 (by kernel_rfl) .nil ?_
      refine sa_take_n 25 rfl rfl rfl rfl g3 (by kernel_rfl) .nil ?_
      refine sa_take_y 26 rfl rfl rfl rfl (rfl) (by kernel_rfl) .nil (pu_pk_t rfl rfl g3 rfl) ?_
      refine sa_take 27 rfl rfl (by kernel_rfl) .nil (pu_pk_t rfl rfl (rfl) rfl) ?_
      refine sa_one 28 (by kernel_rfl) rfl ?_
      refine sl_as rfl rfl rfl ?_
      refine sl_nil ⟨.nil, ?_⟩
      refine sa_done (by kernel_rfl) ?_
      refine sw_ret ⟨rfl, _, _, res_one rfl rfl, ?_, ⟨rfl, rfl⟩⟩
      repeat constructor
    refine sa_take_y 24 rfl rfl rfl rfl g3 (by kernel_rfl) .nil (pu_bd rfl .nil bi_25 zd_25 rfl) ?_
    refine sa_one 23 (by kernel_rfl) rfl ?_
    refine sl_guard_y rfl rfl rfl g3 ?_
    refine sl_load_blkn rfl rfl rfl ag_25 sz_25 (by repeat constructor) (Nat.le_of_ble_eq_true rfl) ?_
    refine sl_nil ⟨.nil, ?_⟩
    refine sa_take_y 25 rfl rfl rfl rfl g3 (by kernel_rfl) .nil (pu_struct_eq rfl rfl rfl ag_25 eg_25 ek_25 rfl) ?_
    refine sa_set 92 (.val (.bool true)) (tt_ivl (x := ofI lo hi) (y := noIval) (eqI_iff.mp (by rw [eqI_noN ha]; have g3 : (ofI lo hi).some = false := g3; rw [g3]; rfl))) ?_
    refine sa_take_y 26 rfl rfl rfl rfl (rfl) (by kernel_rfl) .nil (pu_pk_f rfl rfl g3 rfl) ?_
    refine sa_take 27 rfl rfl (by kernel_rfl) .nil (pu_pk_t rfl rfl (rfl) rfl) ?_
    refine sa_one 28 (by kernel_rfl) rfl ?_
    refine sl_as rfl rfl rfl ?_
    refine sl_nil ⟨.nil, ?_⟩
    refine sa_done (by kernel_rfl) ?_
    refine sw_ret ⟨rfl, _, _, res_one rfl rfl, ?_, ⟨rfl, rfl⟩⟩
    repeat constructor
  have g2 : decide (lo = -9223372036854775808) = false := g2
  refine sa_take_n 14 rfl rfl rfl rfl g2 (by kernel_rfl) .nil ?_
  refine sa_take_n 15 rfl rfl rfl rfl g2 (by kernel_rfl) .nil ?_
  refine sa_take_y 16 rfl rfl rfl rfl (rfl) (by kernel_rfl) .nil (pu_pk_f rfl rfl g2 rfl) ?_
  refine sa_take_y 17 rfl rfl rfl rfl (rfl) (by kernel_rfl) .nil (pu_bool_eq rfl rfl rfl u_4) ?_
  refine sa_set 84 (.val (.bool true)) (tt_bool (by rw [text_ofI_all h1 h2, g2]; rfl)) ?_
  refine sa_take 18 rfl rfl (by kernel_rfl) .nil (pu_pk_t rfl rfl (rfl) rfl) ?_
  refine sa_take 19 rfl rfl (by kernel_rfl) .nil (pu_mv rfl rfl) ?_
  first
    | refine sa_take_y 20 rfl rfl rfl rfl (rfl) (by kernel_rfl) .nil (pu_fieldAddr_ptr rfl rfl fo_25_0) ?_
    | refine sa_take_y 20 rfl rfl rfl rfl (rfl) (by kernel_rfl) .nil (pu_fieldAddr_rp rfl rfl fo_25_0) ?_
    | refine sa_take_y 20 rfl rfl rfl rfl (rfl) (by kernel_rfl) .nil (pu_fieldAddr_ref rfl rfl fo_25_0) ?_
  refine sa_one 21 (by kernel_rfl) rfl ?_
  refine sl_guard_y rfl rfl rfl (rfl) ?_
  refine sl_load_blk1 rfl rfl rfl ag_4 (by repeat constructor) rfl ?_
  refine sl_nil ⟨.nil, ?_⟩
  refine sa_take_y 22 rfl rfl rfl rfl (rfl) (by kernel_rfl) .nil (pu_mv rfl rfl) ?_
  refine sa_case_at 89 rfl (fun g3 => ?_) (fun g3 => ?_)
  · refine sa_take_n 23 rfl rfl rfl rfl g3 (by kernel_rfl) .nil ?_
    refine sa_take_n 24 rfl rfl rfl rfl g3 (by kernel_rfl) .nil ?_
    refine sa_take_n 25 rfl rfl rfl rfl g3 (by kernel_rfl) .nil ?_
    refine sa_take_y 26 rfl rfl rfl rfl (rfl) (by kernel_rfl) .nil (pu_pk_t rfl rfl g3 rfl) ?_
    refine sa_take 27 rfl rfl (by kernel_rfl) .nil (pu_pk_t rfl rfl (rfl) rfl) ?_
    refine sa_one 28 (by kernel_rfl) rfl ?_
    refine sl_as rfl rfl rfl ?_
    refine sl_nil ⟨.nil, ?_⟩
    refine sa_done (by kernel_rfl) ?_
    refine sw_ret ⟨rfl, _, _, res_one rfl rfl, ?_, ⟨rfl, rfl⟩⟩
    repeat constructor
  refine sa_take_y 24 rfl rfl rfl rfl g3 (by kernel_rfl) .nil (pu_bd rfl .nil bi_25 zd_25 rfl) ?_
  refine sa_one 23 (by kernel_rfl) rfl ?_
  refine sl_guard_y rfl rfl rfl g3 ?_
  refine sl_load_blkn rfl rfl rfl ag_25 sz_25 (by repeat constructor) (Nat.le_of_ble_eq_true rfl) ?_
  refine sl_nil ⟨.nil, ?_⟩
  refine sa_take_y 25 rfl rfl rfl rfl g3 (by kernel_rfl) .nil (pu_struct_eq rfl rfl rfl ag_25 eg_25 ek_25 rfl) ?_
  refine sa_set 92 (.val (.bool true)) (tt_ivl (x := ofI lo hi) (y := noIval) (eqI_iff.mp (by rw [eqI_noN ha]; have g3 : (ofI lo hi).some = false := g3; rw [g3]; rfl))) ?_
  refine sa_take_y 26 rfl rfl rfl rfl (rfl) (by kernel_rfl) .nil (pu_pk_f rfl rfl g3 rfl) ?_
  refine sa_take 27 rfl rfl (by kernel_rfl) .nil (pu_pk_t rfl rfl (rfl) rfl) ?_
  refine sa_one 28 (by kernel_rfl) rfl ?_
  refine sl_as rfl rfl rfl ?_
  refine sl_nil ⟨.nil, ?_⟩
  refine sa_done (by kernel_rfl) ?_
  refine sw_ret ⟨rfl, _, _, res_one rfl rfl, ?_, ⟨rfl, rfl⟩⟩
  repeat constructor

end Go.Proofs.YtipacoopapjdpaaDoor

/- Walks: printed by a program of this session out of its script IvalG. -/
namespace Go.Proofs.YtipacoopapjdpaaDoor
set_option linter.unusedVariables false
set_option linter.unusedSimpArgs false
set_option maxRecDepth 4000
set_option maxHeartbeats 4000000
open Go Go.RowKit SL


theorem ijoin1_ok (a : Ivl) (ha : IvlOk a) (σ : List Chunk) : FSpec Tryd.prog 11 [.val (.list ([a].map ivlV))] σ (fun d σ' => d = .val (ivlV (nrm a)) ∧ σ' = σ) := by
  have h := ijoin_ok [a] (by simp) σ
  rw [joinL_one ha] at h; exact h

theorem not_tt {b : Bool} (h : b = true) : D.val (.bool (!b)) = D.val (.bool false) := congrArg (fun b => D.val (.bool b)) (by rw [h]; rfl)
theorem not_ff {b : Bool} (h : b = false) : D.val (.bool (!b)) = D.val (.bool true) := congrArg (fun b => D.val (.bool b)) (by rw [h]; rfl)


theorem order_meet {x y : Ivl} (hx : Nrm x) (hy : Nrm y) : leqI x y = eqI (meetL [x, y]) x := by
  rw [leqI_eq hx.ok hy.ok, hx.eq, hy.eq, meetL_two hx.ok, hx.eq, hy.eq, mt_eq_iff hx hy]
theorem order_join {x y : Ivl} (hx : Nrm x) (hy : Nrm y) : leqI x y = eqI (joinL [x, y]) y := by
  unfold leqI; rw [hy.eq]
theorem order_anti {x y : Ivl} (hx : Nrm x) (hy : Nrm y) (h1 : leqI x y = true) (h2 : leqI y x = true) : x = y := by
  rw [leq_iff hx.ok hy.ok, hx.eq, hy.eq] at h1; rw [leq_iff hy.ok hx.ok, hx.eq, hy.eq] at h2; exact leN_anti hx hy h1 h2
theorem order_trans {x y z : Ivl} (hx : Nrm x) (hy : Nrm y) (hz : Nrm z) (h1 : leqI x y = true) (h2 : leqI y z = true) : leqI x z = true := by
  rw [leq_iff hx.ok hy.ok, hx.eq, hy.eq] at h1; rw [leq_iff hy.ok hz.ok, hy.eq, hz.eq] at h2; rw [leq_iff hx.ok hz.ok, hx.eq, hz.eq]; exact leN_trans h1 h2
theorem order_self {x : Ivl} (hx : Nrm x) : leqI x x = true := by rw [leq_iff hx.ok hx.ok]; exact leN_refl _
theorem order_no {x : Ivl} (hx : Nrm x) : leqI noIval x = true := by rw [leq_iff nrm_none.ok hx.ok]; exact leN_no'
theorem order_top {x : Ivl} (hx : Nrm x) : leqI x topI = true := by
  rw [leq_iff hx.ok nrm_top.ok, hx.eq, nrm_top.eq]
  rcases hx with rfl | ⟨a, b, rfl, _, h1, h2⟩
  · exact leN_no'
  · unfold isI64 topI at *; rw [leN_is]; omega

theorem ivalOrder_ok (a b c : Ivl) (ha : IvlOk a) (hb : IvlOk b) (hc : IvlOk c) : FSpec Tryd.prog 7 [.val (ivlV a), .val (ivlV b), .val (ivlV c)] [] (fun d σ' => d = .val (.bool true) ∧ σ' = []) := by
  obtain ⟨x, hxe⟩ : ∃ x, x = nrm a := ⟨_, rfl⟩
  obtain ⟨y, hye⟩ : ∃ x, x = nrm b := ⟨_, rfl⟩
  obtain ⟨z, hze⟩ : ∃ x, x = nrm c := ⟨_, rfl⟩
  have hx : Nrm x := hxe ▸ nrm_ok ha
  have hy : Nrm y := hye ▸ nrm_ok hb
  have hz : Nrm z := hze ▸ nrm_ok hc
  refine spec_of_sw Tryd.func7 rfl ?_
  refine sw_seq ?_
  refine sl_region ?_
  refine sl_bx_imm rfl rfl rfl rfl rfl ?_
  refine sl_bx_imm rfl rfl rfl rfl rfl ?_
  refine sl_bx_imm rfl rfl rfl rfl rfl ?_
  refine sl_as rfl rfl rfl ?_
  refine sl_nil ?_
  refine sw_seq ?_
  refine sw_seq ?_
  refine sl_region ?_
  refine sl_callp rfl rfl cal_8 (known12_ok) ?_ ?_
  · repeat constructor
  refine sl_not rfl rfl rfl ?_
  refine sl_nil ?_
  refine sw_false rfl (rfl) ?_
  refine sw_skip ?_
  refine sw_seq ?_
  refine sa_start [] mixed ?_
  refine sa_take 0 rfl rfl (by kernel_rfl) .nil (pu_load_rpn rfl rfl ag_25 sz_25 (Nat.le_of_ble_eq_true rfl)) ?_
  refine sa_take 3 rfl rfl (by kernel_rfl) .nil (pu_load_rpn rfl rfl ag_25 sz_25 (Nat.le_of_ble_eq_true rfl)) ?_
  refine sa_take 6 rfl rfl (by kernel_rfl) .nil (pu_load_rpn rfl rfl ag_25 sz_25 (Nat.le_of_ble_eq_true rfl)) ?_
  apply sa_conf [.p 1 (some 13) [] _, .p 2 (some 14) [0] _, .p 4 (some 16) [] _, .p 5 (some 17) [1, 2] _, .p 7 (some 19) [] _, .p 8 (some 20) [3, 4] _, .n 9 7 [.val (.bool false), .val (.int .i64 0), .val (.int .i64 0)], .n 10 8 [.val (.bool false), .val (.int .i64 0), .val (.int .i64 0)], .n 11 9 [.val (.bool false), .val (.int .i64 0), .val (.int .i64 0)]] (I := [(1, []), (2, [0]), (4, []), (5, [1, 2]), (7, []), (8, [3, 4]), (9, []), (10, []), (11, [])]) (nT := 9) rfl rfl rfl (by kernel_rfl) .nil
  · refine (.cons ?_ (.cons ?_ (.cons ?_ (.cons ?_ (.cons ?_ (.cons ?_ (.cons ?_ (.cons ?_ (.cons ?_ .nil)))))))))
    · apply StepOk.p
      iterate 3 rfl
      intro β σX hσX
      refine sl_bsn ([ivlV a]) rfl rfl (.cons rfl .nil) u_22 sz_25 zs_25 (by decide) rfl rfl rfl (SzI.get (by repeat constructor)) ?_
      exact sl_nil ⟨rfl, rfl, rfl, rfl⟩
    · apply StepOk.p
      iterate 3 rfl
      intro β σX hσX
      show SL _ _ _ _ (sput _ (some 13) _) _ _
      refine sl_callp rfl rfl cal_11 ((fun σ => hxe ▸ ijoin1_ok a ha σ)) ?_ ?_
      · repeat constructor
      exact sl_nil ⟨rfl, rfl, rfl, rfl⟩
    · apply StepOk.p
      iterate 3 rfl
      intro β σX hσX
      refine sl_bsn ([ivlV b]) rfl rfl (.cons rfl .nil) u_22 sz_25 zs_25 (by decide) rfl rfl rfl (SzI.get (by repeat constructor)) ?_
      exact sl_nil ⟨rfl, rfl, rfl, rfl⟩
    · apply StepOk.p
      iterate 3 rfl
      intro β σX hσX
      show SL _ _ _ _ (sput (sput _ (some 14) _) (some 16) _) _ _
      refine sl_callp rfl rfl cal_11 ((fun σ => hye ▸ ijoin1_ok b hb σ)) ?_ ?_
      · repeat constructor
      exact sl_nil ⟨rfl, rfl, rfl, rfl⟩
    · apply StepOk.p
      iterate 3 rfl
      intro β σX hσX
      refine sl_bsn ([ivlV c]) rfl rfl (.cons rfl .nil) u_22 sz_25 zs_25 (by decide) rfl rfl rfl (SzI.get (by repeat constructor)) ?_
      exact sl_nil ⟨rfl, rfl, rfl, rfl⟩
    · apply StepOk.p
      iterate 3 rfl
      intro β σX hσX
      show SL _ _ _ _ (sput (sput _ (some 17) _) (some 19) _) _ _
      refine sl_callp rfl rfl cal_11 ((fun σ => hze ▸ ijoin1_ok c hc σ)) ?_ ?_
      · repeat constructor
      exact sl_nil ⟨rfl, rfl, rfl, rfl⟩
    · refine .n rfl rfl rfl (fun σX => ?_)
      exact sl_alloc rfl rfl zd_25 (fun b => sl_nil ⟨rfl, b, rfl, rfl, rfl⟩)
    · refine .n rfl rfl rfl (fun σX => ?_)
      exact sl_alloc rfl rfl zd_25 (fun b => sl_nil ⟨rfl, b, rfl, rfl, rfl⟩)
    · refine .n rfl rfl rfl (fun σX => ?_)
      exact sl_alloc rfl rfl zd_25 (fun b => sl_nil ⟨rfl, b, rfl, rfl, rfl⟩)
  refine contT_p (contT_p (contT_p (contT_p (contT_p (contT_p (contT_n fun b7 => contT_n fun b8 => contT_n fun b9 => contT_nil ?_))))))
  refine sa_one 12 (by kernel_rfl) rfl ?_
  refine sl_stp rfl rfl rfl rfl sz_25 rfl rfl rfl (by repeat constructor) (Nat.le_of_ble_eq_true rfl) ?_
  refine sl_nil ⟨.nil, ?_⟩
  refine sa_one 13 (by kernel_rfl) rfl ?_
  refine sl_stp rfl rfl rfl rfl sz_25 rfl rfl rfl (by repeat constructor) (Nat.le_of_ble_eq_true rfl) ?_
  refine sl_nil ⟨.nil, ?_⟩
  refine sa_one 14 (by kernel_rfl) rfl ?_
  refine sl_stp rfl rfl rfl rfl sz_25 rfl rfl rfl (by repeat constructor) (Nat.le_of_ble_eq_true rfl) ?_
  refine sl_nil ⟨.nil, ?_⟩
  refine sa_done (by kernel_rfl) ?_
  refine sw_seq ?_
  refine sw_fz 7 rfl rfl (by repeat constructor) ?_
  refine sw_fz 8 rfl rfl (by repeat constructor) ?_
  refine sw_fz 9 rfl rfl (by repeat constructor) ?_
  refine sa_start [] mixed ?_
  refine sa_take 0 rfl rfl (by kernel_rfl) .nil (pu_load_rpn rfl rfl ag_25 sz_25 (Nat.le_of_ble_eq_true rfl)) ?_
  refine sa_take 1 rfl rfl (by kernel_rfl) .nil (pu_load_rpn rfl rfl ag_25 sz_25 (Nat.le_of_ble_eq_true rfl)) ?_
  refine sa_one 2 (by kernel_rfl) rfl ?_
  refine sl_callp rfl rfl cal_12 (ileq_ok x x) ?_ ?_
  · repeat constructor
  refine sl_nil ⟨.nil, ?_⟩
  refine sa_set 23 (.val (.bool true)) (tt_of (order_self hx)) ?_
  refine sa_take 3 rfl rfl (by kernel_rfl) .nil (pu_mv rfl rfl) ?_
  refine sa_take_y 4 rfl rfl rfl rfl (rfl) (by kernel_rfl) .nil (pu_load_rpn rfl rfl ag_25 sz_25 (Nat.le_of_ble_eq_true rfl)) ?_
  refine sa_take_y 5 rfl rfl rfl rfl (rfl) (by kernel_rfl) .nil (pu_load_rpn rfl rfl ag_25 sz_25 (Nat.le_of_ble_eq_true rfl)) ?_
  refine sa_one 6 (by kernel_rfl) rfl ?_
  refine sl_guard_y rfl rfl rfl (rfl) ?_
  refine sl_callp rfl rfl cal_12 (ileq_ok x y) ?_ ?_
  · repeat constructor
  refine sl_nil ⟨.nil, ?_⟩
  refine sa_take_y 7 rfl rfl rfl rfl (rfl) (by kernel_rfl) .nil (pu_not rfl rfl) ?_
  refine sa_take_y 8 rfl rfl rfl rfl (rfl) (by kernel_rfl) .nil (pu_mv rfl rfl) ?_
  refine sa_case_at 29 rfl (fun g1 => ?_) (fun g1 => ?_)
  · refine sa_take_n 9 rfl rfl rfl rfl g1 (by kernel_rfl) .nil ?_
    refine sa_take_n 10 rfl rfl rfl rfl g1 (by kernel_rfl) .nil ?_
    refine sa_take_n 11 rfl rfl rfl rfl g1 (by kernel_rfl) .nil ?_
    refine sa_take_n 12 rfl rfl rfl rfl g1 (by kernel_rfl) .nil ?_
    refine sa_take_y 13 rfl rfl rfl rfl (rfl) (by kernel_rfl) .nil (pu_pk_t rfl rfl g1 rfl) ?_
    refine sa_take_y 14 rfl rfl rfl rfl (rfl) (by kernel_rfl) .nil (pu_mv rfl rfl) ?_
    refine sa_take_n 15 rfl rfl rfl rfl (rfl) (by kernel_rfl) .nil ?_
    refine sa_take_n 16 rfl rfl rfl rfl (rfl) (by kernel_rfl) .nil ?_
    refine sa_take_n 17 rfl rfl rfl rfl (rfl) (by kernel_rfl) .nil ?_
    refine sa_take_y 18 rfl rfl rfl rfl (rfl) (by kernel_rfl) .nil (pu_pk_t rfl rfl (rfl) rfl) ?_
    refine sa_take 19 rfl rfl (by kernel_rfl) .nil (pu_pk_t rfl rfl (rfl) rfl) ?_
    refine sa_take 20 rfl rfl (by kernel_rfl) .nil (pu_mv rfl rfl) ?_
    refine sa_take_y 21 rfl rfl rfl rfl (rfl) (by kernel_rfl) .nil (pu_load_rpn rfl rfl ag_25 sz_25 (Nat.le_of_ble_eq_true rfl)) ?_
    refine sa_take_y 22 rfl rfl rfl rfl (rfl) (by kernel_rfl) .nil (pu_load_rpn rfl rfl ag_25 sz_25 (Nat.le_of_ble_eq_true rfl)) ?_
    refine sa_one 23 (by kernel_rfl) rfl ?_
    refine sl_guard_y rfl rfl rfl (rfl) ?_
    refine sl_callp rfl rfl cal_12 (ileq_ok x y) ?_ ?_
    · repeat constructor
    refine sl_nil ⟨.nil, ?_⟩
    refine sa_take_y 24 rfl rfl rfl rfl (rfl) (by kernel_rfl) .nil (pu_not rfl rfl) ?_
    refine sa_set 45 (.val (.bool true)) (tt_of g1) ?_
    refine sa_take_y 25 rfl rfl rfl rfl (rfl) (by kernel_rfl) .nil (pu_mv rfl rfl) ?_
    refine sa_take_n 26 rfl rfl rfl rfl (rfl) (by kernel_rfl) .nil ?_
    refine sa_take_n 27 rfl rfl rfl rfl (rfl) (by kernel_rfl) .nil ?_
    refine sa_take_n 28 rfl rfl rfl rfl (rfl) (by kernel_rfl) .nil ?_
    refine sa_take_n 29 rfl rfl rfl rfl (rfl) (by kernel_rfl) .nil ?_
    refine sa_take_y 30 rfl rfl rfl rfl (rfl) (by kernel_rfl) .nil (pu_pk_t rfl rfl (rfl) rfl) ?_
    refine sa_take_y 31 rfl rfl rfl rfl (rfl) (by kernel_rfl) .nil (pu_mv rfl rfl) ?_
    refine sa_take_n 32 rfl rfl rfl rfl (rfl) (by kernel_rfl) .nil ?_
    refine sa_take_n 33 rfl rfl rfl rfl (rfl) (by kernel_rfl) .nil ?_
    refine sa_take_n 34 rfl rfl rfl rfl (rfl) (by kernel_rfl) .nil ?_
    refine sa_take_y 35 rfl rfl rfl rfl (rfl) (by kernel_rfl) .nil (pu_pk_t rfl rfl (rfl) rfl) ?_
    refine sa_take 36 rfl rfl (by kernel_rfl) .nil (pu_pk_t rfl rfl (rfl) rfl) ?_
    refine sa_take 37 rfl rfl (by kernel_rfl) .nil (pu_mv rfl rfl) ?_
    refine sa_take_y 39 rfl rfl rfl rfl (rfl) (by kernel_rfl) .nil (pu_load_rpn rfl rfl ag_25 sz_25 (Nat.le_of_ble_eq_true rfl)) ?_
    refine sa_one 38 (by kernel_rfl) rfl ?_
    refine sl_guard_y rfl rfl rfl (rfl) ?_
    refine sl_callp rfl rfl cal_9 (iempty_ok) ?_ ?_
    · repeat constructor
    refine sl_nil ⟨.nil, ?_⟩
    refine sa_one 40 (by kernel_rfl) rfl ?_
    refine sl_guard_y rfl rfl rfl (rfl) ?_
    refine sl_callp rfl rfl cal_12 (ileq_ok noIval x) ?_ ?_
    · repeat constructor
    refine sl_nil ⟨.nil, ?_⟩
    refine sa_set 61 (.val (.bool true)) (tt_of (order_no hx)) ?_
    refine sa_take 41 rfl rfl (by kernel_rfl) .nil (pu_pk_t rfl rfl (rfl) rfl) ?_
    refine sa_take 42 rfl rfl (by kernel_rfl) .nil (pu_mv rfl rfl) ?_
    refine sa_take_y 43 rfl rfl rfl rfl (rfl) (by kernel_rfl) .nil (pu_load_rpn rfl rfl ag_25 sz_25 (Nat.le_of_ble_eq_true rfl)) ?_
    refine sa_one 44 (by kernel_rfl) rfl ?_
    refine sl_guard_y rfl rfl rfl (rfl) ?_
    refine sl_callp rfl rfl cal_15 (itop_ok) ?_ ?_
    · repeat constructor
    refine sl_nil ⟨.nil, ?_⟩
    refine sa_one 45 (by kernel_rfl) rfl ?_
    refine sl_guard_y rfl rfl rfl (rfl) ?_
    refine sl_callp rfl rfl cal_12 (ileq_ok x topI) ?_ ?_
    · repeat constructor
    refine sl_nil ⟨.nil, ?_⟩
    refine sa_set 66 (.val (.bool true)) (tt_of (order_top hx)) ?_
    refine sa_take 46 rfl rfl (by kernel_rfl) .nil (pu_pk_t rfl rfl (rfl) rfl) ?_
    refine sa_take 47 rfl rfl (by kernel_rfl) .nil (pu_mv rfl rfl) ?_
    refine sa_take_y 48 rfl rfl rfl rfl (rfl) (by kernel_rfl) .nil (pu_load_rpn rfl rfl ag_25 sz_25 (Nat.le_of_ble_eq_true rfl)) ?_
    refine sa_take_y 49 rfl rfl rfl rfl (rfl) (by kernel_rfl) .nil (pu_load_rpn rfl rfl ag_25 sz_25 (Nat.le_of_ble_eq_true rfl)) ?_
    refine sa_take_y 51 rfl rfl rfl rfl (rfl) (by kernel_rfl) .nil (pu_load_rpn rfl rfl ag_25 sz_25 (Nat.le_of_ble_eq_true rfl)) ?_
    refine sa_take_y 52 rfl rfl rfl rfl (rfl) (by kernel_rfl) .nil (pu_load_rpn rfl rfl ag_25 sz_25 (Nat.le_of_ble_eq_true rfl)) ?_
    refine sa_take_y 55 rfl rfl rfl rfl (rfl) (by kernel_rfl) .nil (pu_load_rpn rfl rfl ag_25 sz_25 (Nat.le_of_ble_eq_true rfl)) ?_
    apply sa_conf [.p 50 (some 71) [] _, .p 53 (some 74) [] _] (I := [(50, []), (53, [])]) (nT := 2) rfl rfl rfl (by kernel_rfl) .nil
    · refine (.cons ?_ (.cons ?_ .nil))
      · apply StepOk.p
        iterate 3 rfl
        intro β σX hσX
        refine sl_guard_y rfl rfl rfl (rfl) ?_
        refine sl_callp rfl rfl cal_12 (ileq_ok x y) ?_ ?_
        · repeat constructor
        exact sl_nil ⟨rfl, rfl, rfl, rfl⟩
      · apply StepOk.p
        iterate 3 rfl
        intro β σX hσX
        refine sl_guard_y rfl rfl rfl (rfl) ?_
        refine sl_bsn ([ivlV x, ivlV y]) rfl rfl (.cons rfl (.cons rfl .nil)) u_22 sz_25 zs_25 (by decide) rfl rfl rfl (SzI.get (by repeat constructor)) ?_
        exact sl_nil ⟨rfl, rfl, rfl, rfl⟩
    refine contT_p (contT_p (contT_nil ?_))
    refine sa_one 54 (by kernel_rfl) rfl ?_
    refine sl_guard_y rfl rfl rfl (rfl) ?_
    refine sl_callp rfl rfl cal_19 (imeet_ok [x, y] (by simp)) ?_ ?_
    · repeat constructor
    refine sl_nil ⟨.nil, ?_⟩
    refine sa_take_y 56 rfl rfl rfl rfl (rfl) (by kernel_rfl) .nil (pu_struct_eq rfl rfl rfl ag_25 eg_25 ek_25 rfl) ?_
    refine sa_take_y 57 rfl rfl rfl rfl (rfl) (by kernel_rfl) .nil (pu_bool_eq rfl rfl rfl u_4) ?_
    refine sa_set 78 (.val (.bool true)) (tt_bool (order_meet hx hy)) ?_
    refine sa_take 58 rfl rfl (by kernel_rfl) .nil (pu_pk_t rfl rfl (rfl) rfl) ?_
    refine sa_take 59 rfl rfl (by kernel_rfl) .nil (pu_mv rfl rfl) ?_
    refine sa_take_y 60 rfl rfl rfl rfl (rfl) (by kernel_rfl) .nil (pu_load_rpn rfl rfl ag_25 sz_25 (Nat.le_of_ble_eq_true rfl)) ?_
    refine sa_take_y 61 rfl rfl rfl rfl (rfl) (by kernel_rfl) .nil (pu_load_rpn rfl rfl ag_25 sz_25 (Nat.le_of_ble_eq_true rfl)) ?_
    refine sa_take_y 63 rfl rfl rfl rfl (rfl) (by kernel_rfl) .nil (pu_load_rpn rfl rfl ag_25 sz_25 (Nat.le_of_ble_eq_true rfl)) ?_
    refine sa_take_y 64 rfl rfl rfl rfl (rfl) (by kernel_rfl) .nil (pu_load_rpn rfl rfl ag_25 sz_25 (Nat.le_of_ble_eq_true rfl)) ?_
    refine sa_take_y 67 rfl rfl rfl rfl (rfl) (by kernel_rfl) .nil (pu_load_rpn rfl rfl ag_25 sz_25 (Nat.le_of_ble_eq_true rfl)) ?_
    apply sa_conf [.p 62 (some 83) [] _, .p 65 (some 86) [] _] (I := [(62, []), (65, [])]) (nT := 2) rfl rfl rfl (by kernel_rfl) .nil
    · refine (.cons ?_ (.cons ?_ .nil))
      · apply StepOk.p
        iterate 3 rfl
        intro β σX hσX
        refine sl_guard_y rfl rfl rfl (rfl) ?_
        refine sl_callp rfl rfl cal_12 (ileq_ok x y) ?_ ?_
        · repeat constructor
        exact sl_nil ⟨rfl, rfl, rfl, rfl⟩
      · apply StepOk.p
        iterate 3 rfl
        intro β σX hσX
        refine sl_guard_y rfl rfl rfl (rfl) ?_
        refine sl_bsn ([ivlV x, ivlV y]) rfl rfl (.cons rfl (.cons rfl .nil)) u_22 sz_25 zs_25 (by decide) rfl rfl rfl (SzI.get (by repeat constructor)) ?_
        exact sl_nil ⟨rfl, rfl, rfl, rfl⟩
    refine contT_p (contT_p (contT_nil ?_))
    refine sa_one 66 (by kernel_rfl) rfl ?_
    refine sl_guard_y rfl rfl rfl (rfl) ?_
    refine sl_callp rfl rfl cal_11 (ijoin_ok [x, y] (by simp)) ?_ ?_
    · repeat constructor
    refine sl_nil ⟨.nil, ?_⟩
    refine sa_take_y 68 rfl rfl rfl rfl (rfl) (by kernel_rfl) .nil (pu_struct_eq rfl rfl rfl ag_25 eg_25 ek_25 rfl) ?_
    refine sa_take_y 69 rfl rfl rfl rfl (rfl) (by kernel_rfl) .nil (pu_bool_eq rfl rfl rfl u_4) ?_
    refine sa_set 90 (.val (.bool true)) (tt_bool (order_join hx hy)) ?_
    refine sa_take 70 rfl rfl (by kernel_rfl) .nil (pu_pk_t rfl rfl (rfl) rfl) ?_
    refine sa_one 71 (by kernel_rfl) rfl ?_
    refine sl_as rfl rfl rfl ?_
    refine sl_nil ⟨.nil, ?_⟩
    refine sa_done (by kernel_rfl) ?_
    refine sw_ret ⟨rfl, _, _, res_one rfl rfl, ?_, ⟨rfl, rfl⟩⟩
    repeat constructor
  have k1 : leqI x y = true := by simpa using g1
  refine sa_take_y 9 rfl rfl rfl rfl g1 (by kernel_rfl) .nil (pu_load_rpn rfl rfl ag_25 sz_25 (Nat.le_of_ble_eq_true rfl)) ?_
  refine sa_take_y 10 rfl rfl rfl rfl g1 (by kernel_rfl) .nil (pu_load_rpn rfl rfl ag_25 sz_25 (Nat.le_of_ble_eq_true rfl)) ?_
  refine sa_one 11 (by kernel_rfl) rfl ?_
  refine sl_guard_y rfl rfl rfl g1 ?_
  refine sl_callp rfl rfl cal_12 (ileq_ok y x) ?_ ?_
  · repeat constructor
  refine sl_nil ⟨.nil, ?_⟩
  refine sa_take_y 12 rfl rfl rfl rfl g1 (by kernel_rfl) .nil (pu_not rfl rfl) ?_
  refine sa_take_y 13 rfl rfl rfl rfl (rfl) (by kernel_rfl) .nil (pu_pk_f rfl rfl g1 rfl) ?_
  refine sa_take_y 14 rfl rfl rfl rfl (rfl) (by kernel_rfl) .nil (pu_mv rfl rfl) ?_
  refine sa_case_at 35 rfl (fun g2 => ?_) (fun g2 => ?_)
  · refine sa_take_n 15 rfl rfl rfl rfl g2 (by kernel_rfl) .nil ?_
    refine sa_take_n 16 rfl rfl rfl rfl g2 (by kernel_rfl) .nil ?_
    refine sa_take_n 17 rfl rfl rfl rfl g2 (by kernel_rfl) .nil ?_
    refine sa_take_y 18 rfl rfl rfl rfl (rfl) (by kernel_rfl) .nil (pu_pk_t rfl rfl g2 rfl) ?_
    refine sa_take 19 rfl rfl (by kernel_rfl) .nil (pu_pk_t rfl rfl (rfl) rfl) ?_
    refine sa_take 20 rfl rfl (by kernel_rfl) .nil (pu_mv rfl rfl) ?_
    refine sa_take_y 21 rfl rfl rfl rfl (rfl) (by kernel_rfl) .nil (pu_load_rpn rfl rfl ag_25 sz_25 (Nat.le_of_ble_eq_true rfl)) ?_
    refine sa_take_y 22 rfl rfl rfl rfl (rfl) (by kernel_rfl) .nil (pu_load_rpn rfl rfl ag_25 sz_25 (Nat.le_of_ble_eq_true rfl)) ?_
    refine sa_one 23 (by kernel_rfl) rfl ?_
    refine sl_guard_y rfl rfl rfl (rfl) ?_
    refine sl_callp rfl rfl cal_12 (ileq_ok x y) ?_ ?_
    · repeat constructor
    refine sl_nil ⟨.nil, ?_⟩
    refine sa_take_y 24 rfl rfl rfl rfl (rfl) (by kernel_rfl) .nil (pu_not rfl rfl) ?_
    refine sa_set 45 (.val (.bool false)) (not_tt k1) ?_
    refine sa_take_y 25 rfl rfl rfl rfl (rfl) (by kernel_rfl) .nil (pu_mv rfl rfl) ?_
    refine sa_take_y 26 rfl rfl rfl rfl (rfl) (by kernel_rfl) .nil (pu_load_rpn rfl rfl ag_25 sz_25 (Nat.le_of_ble_eq_true rfl)) ?_
    refine sa_take_y 27 rfl rfl rfl rfl (rfl) (by kernel_rfl) .nil (pu_load_rpn rfl rfl ag_25 sz_25 (Nat.le_of_ble_eq_true rfl)) ?_
    refine sa_one 28 (by kernel_rfl) rfl ?_
    refine sl_guard_y rfl rfl rfl (rfl) ?_
    refine sl_callp rfl rfl cal_12 (ileq_ok y z) ?_ ?_
    · repeat constructor
    refine sl_nil ⟨.nil, ?_⟩
    refine sa_take_y 29 rfl rfl rfl rfl (rfl) (by kernel_rfl) .nil (pu_not rfl rfl) ?_
    refine sa_take_y 30 rfl rfl rfl rfl (rfl) (by kernel_rfl) .nil (pu_pk_f rfl rfl (rfl) rfl) ?_
    refine sa_take_y 31 rfl rfl rfl rfl (rfl) (by kernel_rfl) .nil (pu_mv rfl rfl) ?_
    refine sa_case_at 52 rfl (fun g3 => ?_) (fun g3 => ?_)
    · refine sa_take_n 32 rfl rfl rfl rfl g3 (by kernel_rfl) .nil ?_
      refine sa_take_n 33 rfl rfl rfl rfl g3 (by kernel_rfl) .nil ?_
      refine sa_take_n 34 rfl rfl rfl rfl g3 (by kernel_rfl) .nil ?_
      refine sa_take_y 35 rfl rfl rfl rfl (rfl) (by kernel_rfl) .nil (pu_pk_t rfl rfl g3 rfl) ?_
      refine sa_take 36 rfl rfl (by kernel_rfl) .nil (pu_pk_t rfl rfl (rfl) rfl) ?_
      refine sa_take 37 rfl rfl (by kernel_rfl) .nil (pu_mv rfl rfl) ?_
      refine sa_take_y 39 rfl rfl rfl rfl (rfl) (by kernel_rfl) .nil (pu_load_rpn rfl rfl ag_25 sz_25 (Nat.le_of_ble_eq_true rfl)) ?_
      refine sa_one 38 (by kernel_rfl) rfl ?_
      refine sl_guard_y rfl rfl rfl (rfl) ?_
      refine sl_callp rfl rfl cal_9 (iempty_ok) ?_ ?_
      · repeat constructor
      refine sl_nil ⟨.nil, ?_⟩
      refine sa_one 40 (by kernel_rfl) rfl ?_
      refine sl_guard_y rfl rfl rfl (rfl) ?_
      refine sl_callp rfl rfl cal_12 (ileq_ok noIval x) ?_ ?_
      · repeat constructor
      refine sl_nil ⟨.nil, ?_⟩
      refine sa_set 61 (.val (.bool true)) (tt_of (order_no hx)) ?_
      refine sa_take 41 rfl rfl (by kernel_rfl) .nil (pu_pk_t rfl rfl (rfl) rfl) ?_
      refine sa_take 42 rfl rfl (by kernel_rfl) .nil (pu_mv rfl rfl) ?_
      refine sa_take_y 43 rfl rfl rfl rfl (rfl) (by kernel_rfl) .nil (pu_load_rpn rfl rfl ag_25 sz_25 (Nat.le_of_ble_eq_true rfl)) ?_
      refine sa_one 44 (by kernel_rfl) rfl ?_
      refine sl_guard_y rfl rfl rfl (rfl) ?_
      refine sl_callp rfl rfl cal_15 (itop_ok) ?_ ?_
      · repeat constructor
      refine sl_nil ⟨.nil, ?_⟩
      refine sa_one 45 (by kernel_rfl) rfl ?_
      refine sl_guard_y rfl rfl rfl (rfl) ?_
      refine sl_callp rfl rfl cal_12 (ileq_ok x topI) ?_ ?_
      · repeat constructor
      refine sl_nil ⟨.nil, ?_⟩
      refine sa_set 66 (.val (.bool true)) (tt_of (order_top hx)) ?_
      refine sa_take 46 rfl rfl (by kernel_rfl) .nil (pu_pk_t rfl rfl (rfl) rfl) ?_
      refine sa_take 47 rfl rfl (by kernel_rfl) .nil (pu_mv rfl rfl) ?_
      refine sa_take_y 48 rfl rfl rfl rfl (rfl) (by kernel_rfl) .nil (pu_load_rpn rfl rfl ag_25 sz_25 (Nat.le_of_ble_eq_true rfl)) ?_
      refine sa_take_y 49 rfl rfl rfl rfl (rfl) (by kernel_rfl) .nil (pu_load_rpn rfl rfl ag_25 sz_25 (Nat.le_of_ble_eq_true rfl)) ?_
      refine sa_take_y 51 rfl rfl rfl rfl (rfl) (by kernel_rfl) .nil (pu_load_rpn rfl rfl ag_25 sz_25 (Nat.le_of_ble_eq_true rfl)) ?_
      refine sa_take_y 52 rfl rfl rfl rfl (rfl) (by kernel_rfl) .nil (pu_load_rpn rfl rfl ag_25 sz_25 (Nat.le_of_ble_eq_true rfl)) ?_
      refine sa_take_y 55 rfl rfl rfl rfl (rfl) (by kernel_rfl) .nil (pu_load_rpn rfl rfl ag_25 sz_25 (Nat.le_of_ble_eq_true rfl)) ?_
      apply sa_conf [.p 50 (some 71) [] _, .p 53 (some 74) [] _] (I := [(50, []), (53, [])]) (nT := 2) rfl rfl rfl (by kernel_rfl) .nil
      · refine (.cons ?_ (.cons ?_ .nil))
        · apply StepOk.p
          iterate 3 rfl
          intro β σX hσX
          refine sl_guard_y rfl rfl rfl (rfl) ?_
          refine sl_callp rfl rfl cal_12 (ileq_ok x y) ?_ ?_
          · repeat constructor
          exact sl_nil ⟨rfl, rfl, rfl, rfl⟩
        · apply StepOk.p
          iterate 3 rfl
          intro β σX hσX
          refine sl_guard_y rfl rfl rfl (rfl) ?_
          refine sl_bsn ([ivlV x, ivlV y]) rfl rfl (.cons rfl (.cons rfl .nil)) u_22 sz_25 zs_25 (by decide) rfl rfl rfl (SzI.get (by repeat constructor)) ?_
          exact sl_nil ⟨rfl, rfl, rfl, rfl⟩
      refine contT_p (contT_p (contT_nil ?_))
      refine sa_one 54 (by kernel_rfl) rfl ?_
      refine sl_guard_y rfl rfl rfl (rfl) ?_
      refine sl_callp rfl rfl cal_19 (imeet_ok [x, y] (by simp)) ?_ ?_
      · repeat constructor
      refine sl_nil ⟨.nil, ?_⟩
      refine sa_take_y 56 rfl rfl rfl rfl (rfl) (by kernel_rfl) .nil (pu_struct_eq rfl rfl rfl ag_25 eg_25 ek_25 rfl) ?_
      refine sa_take_y 57 rfl rfl rfl rfl (rfl) (by kernel_rfl) .nil (pu_bool_eq rfl rfl rfl u_4) ?_
      refine sa_set 78 (.val (.bool true)) (tt_bool (order_meet hx hy)) ?_
      refine sa_take 58 rfl rfl (by kernel_rfl) .nil (pu_pk_t rfl rfl (rfl) rfl) ?_
      refine sa_take 59 rfl rfl (by kernel_rfl) .nil (pu_mv rfl rfl) ?_
      refine sa_take_y 60 rfl rfl rfl rfl (rfl) (by kernel_rfl) .nil (pu_load_rpn rfl rfl ag_25 sz_25 (Nat.le_of_ble_eq_true rfl)) ?_
      refine sa_take_y 61 rfl rfl rfl rfl (rfl) (by kernel_rfl) .nil (pu_load_rpn rfl rfl ag_25 sz_25 (Nat.le_of_ble_eq_true rfl)) ?_
      refine sa_take_y 63 rfl rfl rfl rfl (rfl) (by kernel_rfl) .nil (pu_load_rpn rfl rfl ag_25 sz_25 (Nat.le_of_ble_eq_true rfl)) ?_
      refine sa_take_y 64 rfl rfl rfl rfl (rfl) (by kernel_rfl) .nil (pu_load_rpn rfl rfl ag_25 sz_25 (Nat.le_of_ble_eq_true rfl)) ?_
      refine sa_take_y 67 rfl rfl rfl rfl (rfl) (by kernel_rfl) .nil (pu_load_rpn rfl rfl ag_25 sz_25 (Nat.le_of_ble_eq_true rfl)) ?_
      apply sa_conf [.p 62 (some 83) [] _, .p 65 (some 86) [] _] (I := [(62, []), (65, [])]) (nT := 2) rfl rfl rfl (by kernel_rfl) .nil
      · refine (.cons ?_ (.cons ?_ .nil))
        · apply StepOk.p
          iterate 3 rfl
          intro β σX hσX
          refine sl_guard_y rfl rfl rfl (rfl) ?_
          refine sl_callp rfl rfl cal_12 (ileq_ok x y) ?_ ?_
          · repeat constructor
          exact sl_nil ⟨rfl, rfl, rfl, rfl⟩
        · apply StepOk.p
          iterate 3 rfl
          intro β σX hσX
          refine sl_guard_y rfl rfl rfl (rfl) ?_
          refine sl_bsn ([ivlV x, ivlV y]) rfl rfl (.cons rfl (.cons rfl .nil)) u_22 sz_25 zs_25 (by decide) rfl rfl rfl (SzI.get (by repeat constructor)) ?_
          exact sl_nil ⟨rfl, rfl, rfl, rfl⟩
      refine contT_p (contT_p (contT_nil ?_))
      refine sa_one 66 (by kernel_rfl) rfl ?_
      refine sl_guard_y rfl rfl rfl (rfl) ?_
      refine sl_callp rfl rfl cal_11 (ijoin_ok [x, y] (by simp)) ?_ ?_
      · repeat constructor
      refine sl_nil ⟨.nil, ?_⟩
      refine sa_take_y 68 rfl rfl rfl rfl (rfl) (by kernel_rfl) .nil (pu_struct_eq rfl rfl rfl ag_25 eg_25 ek_25 rfl) ?_
      refine sa_take_y 69 rfl rfl rfl rfl (rfl) (by kernel_rfl) .nil (pu_bool_eq rfl rfl rfl u_4) ?_
      refine sa_set 90 (.val (.bool true)) (tt_bool (order_join hx hy)) ?_
      refine sa_take 70 rfl rfl (by kernel_rfl) .nil (pu_pk_t rfl rfl (rfl) rfl) ?_
      refine sa_one 71 (by kernel_rfl) rfl ?_
      refine sl_as rfl rfl rfl ?_
      refine sl_nil ⟨.nil, ?_⟩
      refine sa_done (by kernel_rfl) ?_
      refine sw_ret ⟨rfl, _, _, res_one rfl rfl, ?_, ⟨rfl, rfl⟩⟩
      repeat constructor
    have k3 : leqI y z = true := by simpa using g3
    refine sa_take_y 32 rfl rfl rfl rfl g3 (by kernel_rfl) .nil (pu_load_rpn rfl rfl ag_25 sz_25 (Nat.le_of_ble_eq_true rfl)) ?_
    refine sa_take_y 33 rfl rfl rfl rfl g3 (by kernel_rfl) .nil (pu_load_rpn rfl rfl ag_25 sz_25 (Nat.le_of_ble_eq_true rfl)) ?_
    refine sa_one 34 (by kernel_rfl) rfl ?_
    refine sl_guard_y rfl rfl rfl g3 ?_
    refine sl_callp rfl rfl cal_12 (ileq_ok x z) ?_ ?_
    · repeat constructor
    refine sl_nil ⟨.nil, ?_⟩
    refine sa_set 55 (.val (.bool true)) (tt_of (order_trans hx hy hz k1 k3)) ?_
    refine sa_take_y 35 rfl rfl rfl rfl (rfl) (by kernel_rfl) .nil (pu_pk_f rfl rfl g3 rfl) ?_
    refine sa_take 36 rfl rfl (by kernel_rfl) .nil (pu_pk_t rfl rfl (rfl) rfl) ?_
    refine sa_take 37 rfl rfl (by kernel_rfl) .nil (pu_mv rfl rfl) ?_
    refine sa_take_y 39 rfl rfl rfl rfl (rfl) (by kernel_rfl) .nil (pu_load_rpn rfl rfl ag_25 sz_25 (Nat.le_of_ble_eq_true rfl)) ?_
    refine sa_one 38 (by kernel_rfl) rfl ?_
    refine sl_guard_y rfl rfl rfl (rfl) ?_
    refine sl_callp rfl rfl cal_9 (iempty_ok) ?_ ?_
    · repeat constructor
    refine sl_nil ⟨.nil, ?_⟩
    refine sa_one 40 (by kernel_rfl) rfl ?_
    refine sl_guard_y rfl rfl rfl (rfl) ?_
    refine sl_callp rfl rfl cal_12 (ileq_ok noIval x) ?_ ?_
    · repeat constructor
    refine sl_nil ⟨.nil, ?_⟩
    refine sa_set 61 (.val (.bool true)) (tt_of (order_no hx)) ?_
    refine sa_take 41 rfl rfl (by kernel_rfl) .nil (pu_pk_t rfl rfl (rfl) rfl) ?_
    refine sa_take 42 rfl rfl (by kernel_rfl) .nil (pu_mv rfl rfl) ?_
    refine sa_take_y 43 rfl rfl rfl rfl (rfl) (by kernel_rfl) .nil (pu_load_rpn rfl rfl ag_25 sz_25 (Nat.le_of_ble_eq_true rfl)) ?_
    refine sa_one 44 (by kernel_rfl) rfl ?_
    refine sl_guard_y rfl rfl rfl (rfl) ?_
    refine sl_callp rfl rfl cal_15 (itop_ok) ?_ ?_
    · repeat constructor
    refine sl_nil ⟨.nil, ?_⟩
    refine sa_one 45 (by kernel_rfl) rfl ?_
    refine sl_guard_y rfl rfl rfl (rfl) ?_
    refine sl_callp rfl rfl cal_12 (ileq_ok x topI) ?_ ?_
    · repeat constructor
    refine sl_nil ⟨.nil, ?_⟩
    refine sa_set 66 (.val (.bool true)) (tt_of (order_top hx)) ?_
    refine sa_take 46 rfl rfl (by kernel_rfl) .nil (pu_pk_t rfl rfl (rfl) rfl) ?_
    refine sa_take 47 rfl rfl (by kernel_rfl) .nil (pu_mv rfl rfl) ?_
    refine sa_take_y 48 rfl rfl rfl rfl (rfl) (by kernel_rfl) .nil (pu_load_rpn rfl rfl ag_25 sz_25 (Nat.le_of_ble_eq_true rfl)) ?_
    refine sa_take_y 49 rfl rfl rfl rfl (rfl) (by kernel_rfl) .nil (pu_load_rpn rfl rfl ag_25 sz_25 (Nat.le_of_ble_eq_true rfl)) ?_
    refine sa_take_y 51 rfl rfl rfl rfl (rfl) (by kernel_rfl) .nil (pu_load_rpn rfl rfl ag_25 sz_25 (Nat.le_of_ble_eq_true rfl)) ?_
    refine sa_take_y 52 rfl rfl rfl rfl (rfl) (by kernel_rfl) .nil (pu_load_rpn rfl rfl ag_25 sz_25 (Nat.le_of_ble_eq_true rfl)) ?_
    refine sa_take_y 55 rfl rfl rfl rfl (rfl) (by kernel_rfl) .nil (pu_load_rpn rfl rfl ag_25 sz_25 (Nat.le_of_ble_eq_true rfl)) ?_
    apply sa_conf [.p 50 (some 71) [] _, .p 53 (some 74) [] _] (I := [(50, []), (53, [])]) (nT := 2) rfl rfl rfl (by kernel_rfl) .nil
    · refine (.cons ?_ (.cons ?_ .nil))
      · apply StepOk.p
        iterate 3 rfl
        intro β σX hσX
        refine sl_guard_y rfl rfl rfl (rfl) ?_
        refine sl_callp rfl rfl cal_12 (ileq_ok x y) ?_ ?_
        · repeat constructor
        exact sl_nil ⟨rfl, rfl, rfl, rfl⟩
      · apply StepOk.p
        iterate 3 rfl
        intro β σX hσX
        refine sl_guard_y rfl rfl rfl (rfl) ?_
        refine sl_bsn ([ivlV x, ivlV y]) rfl rfl (.cons rfl (.cons rfl .nil)) u_22 sz_25 zs_25 (by decide) rfl rfl rfl (SzI.get (by repeat constructor)) ?_
        exact sl_nil ⟨rfl, rfl, rfl, rfl⟩
    refine contT_p (contT_p (contT_nil ?_))
    refine sa_one 54 (by kernel_rfl) rfl ?_
    refine sl_guard_y rfl rfl rfl (rfl) ?_
    refine sl_callp rfl rfl cal_19 (imeet_ok [x, y] (by simp)) ?_ ?_
    · repeat constructor
    refine sl_nil ⟨.nil, ?_⟩
    refine sa_take_y 56 rfl rfl rfl rfl (rfl) (by kernel_rfl) .nil (pu_struct_eq rfl rfl rfl ag_25 eg_25 ek_25 rfl) ?_
    refine sa_take_y 57 rfl rfl rfl rfl (rfl) (by kernel_rfl) .nil (pu_bool_eq rfl rfl rfl u_4) ?_
    refine sa_set 78 (.val (.bool true)) (tt_bool (order_meet hx hy)) ?_
    refine sa_take 58 rfl rfl (by kernel_rfl) .nil (pu_pk_t rfl rfl (rfl) rfl) ?_
    refine sa_take 59 rfl rfl (by kernel_rfl) .nil (pu_mv rfl rfl) ?_
    refine sa_take_y 60 rfl rfl rfl rfl (rfl) (by kernel_rfl) .nil (pu_load_rpn rfl rfl ag_25 sz_25 (Nat.le_of_ble_eq_true rfl)) ?_
    refine sa_take_y 61 rfl rfl rfl rfl (rfl) (by kernel_rfl) .nil (pu_load_rpn rfl rfl ag_25 sz_25 (Nat.le_of_ble_eq_true rfl)) ?_
    refine sa_take_y 63 rfl rfl rfl rfl (rfl) (by kernel_rfl) .nil (pu_load_rpn rfl rfl ag_25 sz_25 (Nat.le_of_ble_eq_true rfl)) ?_
    refine sa_take_y 64 rfl rfl rfl rfl (rfl) (by kernel_rfl) .nil (pu_load_rpn rfl rfl ag_25 sz_25 (Nat.le_of_ble_eq_true rfl)) ?_
    refine sa_take_y 67 rfl rfl rfl rfl (rfl) (by kernel_rfl) .nil (pu_load_rpn rfl rfl ag_25 sz_25 (Nat.le_of_ble_eq_true rfl)) ?_
    apply sa_conf [.p 62 (some 83) [] _, .p 65 (some 86) [] _] (I := [(62, []), (65, [])]) (nT := 2) rfl rfl rfl (by kernel_rfl) .nil
    · refine (.cons ?_ (.cons ?_ .nil))
      · apply StepOk.p
        iterate 3 rfl
        intro β σX hσX
        refine sl_guard_y rfl rfl rfl (rfl) ?_
        refine sl_callp rfl rfl cal_12 (ileq_ok x y) ?_ ?_
        · repeat constructor
        exact sl_nil ⟨rfl, rfl, rfl, rfl⟩
      · apply StepOk.p
        iterate 3 rfl
        intro β σX hσX
        refine sl_guard_y rfl rfl rfl (rfl) ?_
        refine sl_bsn ([ivlV x, ivlV y]) rfl rfl (.cons rfl (.cons rfl .nil)) u_22 sz_25 zs_25 (by decide) rfl rfl rfl (SzI.get (by repeat constructor)) ?_
        exact sl_nil ⟨rfl, rfl, rfl, rfl⟩
    refine contT_p (contT_p (contT_nil ?_))
    refine sa_one 66 (by kernel_rfl) rfl ?_
    refine sl_guard_y rfl rfl rfl (rfl) ?_
    refine sl_callp rfl rfl cal_11 (ijoin_ok [x, y] (by simp)) ?_ ?_
    · repeat constructor
    refine sl_nil ⟨.nil, ?_⟩
    refine sa_take_y 68 rfl rfl rfl rfl (rfl) (by kernel_rfl) .nil (pu_struct_eq rfl rfl rfl ag_25 eg_25 ek_25 rfl) ?_
    refine sa_take_y 69 rfl rfl rfl rfl (rfl) (by kernel_rfl) .nil (pu_bool_eq rfl rfl rfl u_4) ?_
    refine sa_set 90 (.val (.bool true)) (tt_bool (order_join hx hy)) ?_
    refine sa_take 70 rfl rfl (by kernel_rfl) .nil (pu_pk_t rfl rfl (rfl) rfl) ?_
    refine sa_one 71 (by kernel_rfl) rfl ?_
    refine sl_as rfl rfl rfl ?_
    refine sl_nil ⟨.nil, ?_⟩
    refine sa_done (by kernel_rfl) ?_
    refine sw_ret ⟨rfl, _, _, res_one rfl rfl, ?_, ⟨rfl, rfl⟩⟩
    repeat constructor
  have k2 : leqI y x = true := by simpa using g2
  refine sa_take_y 15 rfl rfl rfl rfl g2 (by kernel_rfl) .nil (pu_load_rpn rfl rfl ag_25 sz_25 (Nat.le_of_ble_eq_true rfl)) ?_
  refine sa_take_y 16 rfl rfl rfl rfl g2 (by kernel_rfl) .nil (pu_load_rpn rfl rfl ag_25 sz_25 (Nat.le_of_ble_eq_true rfl)) ?_
  refine sa_take_y 17 rfl rfl rfl rfl g2 (by kernel_rfl) .nil (pu_struct_eq rfl rfl rfl ag_25 eg_25 ek_25 rfl) ?_
  refine sa_set 38 (.val (.bool true)) (tt_ivl (order_anti hx hy k1 k2)) ?_
  refine sa_take_y 18 rfl rfl rfl rfl (rfl) (by kernel_rfl) .nil (pu_pk_f rfl rfl g2 rfl) ?_
  refine sa_take 19 rfl rfl (by kernel_rfl) .nil (pu_pk_t rfl rfl (rfl) rfl) ?_
  refine sa_take 20 rfl rfl (by kernel_rfl) .nil (pu_mv rfl rfl) ?_
  refine sa_take_y 21 rfl rfl rfl rfl (rfl) (by kernel_rfl) .nil (pu_load_rpn rfl rfl ag_25 sz_25 (Nat.le_of_ble_eq_true rfl)) ?_
  refine sa_take_y 22 rfl rfl rfl rfl (rfl) (by kernel_rfl) .nil (pu_load_rpn rfl rfl ag_25 sz_25 (Nat.le_of_ble_eq_true rfl)) ?_
  refine sa_one 23 (by kernel_rfl) rfl ?_
  refine sl_guard_y rfl rfl rfl (rfl) ?_
  refine sl_callp rfl rfl cal_12 (ileq_ok x y) ?_ ?_
  · repeat constructor
  refine sl_nil ⟨.nil, ?_⟩
  refine sa_take_y 24 rfl rfl rfl rfl (rfl) (by kernel_rfl) .nil (pu_not rfl rfl) ?_
  refine sa_set 45 (.val (.bool false)) (not_tt k1) ?_
  refine sa_take_y 25 rfl rfl rfl rfl (rfl) (by kernel_rfl) .nil (pu_mv rfl rfl) ?_
  refine sa_take_y 26 rfl rfl rfl rfl (rfl) (by kernel_rfl) .nil (pu_load_rpn rfl rfl ag_25 sz_25 (Nat.le_of_ble_eq_true rfl)) ?_
  refine sa_take_y 27 rfl rfl rfl rfl (rfl) (by kernel_rfl) .nil (pu_load_rpn rfl rfl ag_25 sz_25 (Nat.le_of_ble_eq_true rfl)) ?_
  refine sa_one 28 (by kernel_rfl) rfl ?_
  refine sl_guard_y rfl rfl rfl (rfl) ?_
  refine sl_callp rfl rfl cal_12 (ileq_ok y z) ?_ ?_
  · repeat constructor
  refine sl_nil ⟨.nil, ?_⟩
  refine sa_take_y 29 rfl rfl rfl rfl (rfl) (by kernel_rfl) .nil (pu_not rfl rfl) ?_
  refine sa_take_y 30 rfl rfl rfl rfl (rfl) (by kernel_rfl) .nil (pu_pk_f rfl rfl (rfl) rfl) ?_
  refine sa_take_y 31 rfl rfl rfl rfl (rfl) (by kernel_rfl) .nil (pu_mv rfl rfl) ?_
  refine sa_case_at 52 rfl (fun g3 => ?_) (fun g3 => ?_)
  · refine sa_take_n 32 rfl rfl rfl rfl g3 (by kernel_rfl) .nil ?_
    refine sa_take_n 33 rfl rfl rfl rfl g3 (by kernel_rfl) .nil ?_
    refine sa_take_n 34 rfl rfl rfl rfl g3 (by kernel_rfl) .nil ?_
    refine sa_take_y 35 rfl rfl rfl rfl (rfl) (by kernel_rfl) .nil (pu_pk_t rfl rfl g3 rfl) ?_
    refine sa_take 36 rfl rfl (by kernel_rfl) .nil (pu_pk_t rfl rfl (rfl) rfl) ?_
    refine sa_take 37 rfl rfl (by kernel_rfl) .nil (pu_mv rfl rfl) ?_
    refine sa_take_y 39 rfl rfl rfl rfl (rfl) (by kernel_rfl) .nil (pu_load_rpn rfl rfl ag_25 sz_25 (Nat.le_of_ble_eq_true rfl)) ?_
    refine sa_one 38 (by kernel_rfl) rfl ?_
    refine sl_guard_y rfl rfl rfl (rfl) ?_
    refine sl_callp rfl rfl cal_9 (iempty_ok) ?_ ?_
    · repeat constructor
    refine sl_nil ⟨.nil, ?_⟩
    refine sa_one 40 (by kernel_rfl) rfl ?_
    refine sl_guard_y rfl rfl rfl (rfl) ?_
    refine sl_callp rfl rfl cal_12 (ileq_ok noIval x) ?_ ?_
    · repeat constructor
    refine sl_nil ⟨.nil, ?_⟩
    refine sa_set 61 (.val (.bool true)) (tt_of (order_no hx)) ?_
    refine sa_take 41 rfl rfl (by kernel_rfl) .nil (pu_pk_t rfl rfl (rfl) rfl) ?_
    refine sa_take 42 rfl rfl (by kernel_rfl) .nil (pu_mv rfl rfl) ?_
    refine sa_take_y 43 rfl rfl rfl rfl (rfl) (by kernel_rfl) .nil (pu_load_rpn rfl rfl ag_25 sz_25 (Nat.le_of_ble_eq_true rfl)) ?_
    refine sa_one 44 (by kernel_rfl) rfl ?_
    refine sl_guard_y rfl rfl rfl (rfl) ?_
    refine sl_callp rfl rfl cal_15 (itop_ok) ?_ ?_
    · repeat constructor
    refine sl_nil ⟨.nil, ?_⟩
    refine sa_one 45 (by kernel_rfl) rfl ?_
    refine sl_guard_y rfl rfl rfl (rfl) ?_
    refine sl_callp rfl rfl cal_12 (ileq_ok x topI) ?_ ?_
    · repeat constructor
    refine sl_nil ⟨.nil, ?_⟩
    refine sa_set 66 (.val (.bool true)) (tt_of (order_top hx)) ?_
    refine sa_take 46 rfl rfl (by kernel_rfl) .nil (pu_pk_t rfl rfl (rfl) rfl) ?_
    refine sa_take 47 rfl rfl (by kernel_rfl) .nil (pu_mv rfl rfl) ?_
    refine sa_take_y 48 rfl rfl rfl rfl (rfl) (by kernel_rfl) .nil (pu_load_rpn rfl rfl ag_25 sz_25 (Nat.le_of_ble_eq_true rfl)) ?_
    refine sa_take_y 49 rfl rfl rfl rfl (rfl) (by kernel_rfl) .nil (pu_load_rpn rfl rfl ag_25 sz_25 (Nat.le_of_ble_eq_true rfl)) ?_
    refine sa_take_y 51 rfl rfl rfl rfl (rfl) (by kernel_rfl) .nil (pu_load_rpn rfl rfl ag_25 sz_25 (Nat.le_of_ble_eq_true rfl)) ?_
    refine sa_take_y 52 rfl rfl rfl rfl (rfl) (by kernel_rfl) .nil (pu_load_rpn rfl rfl ag_25 sz_25 (Nat.le_of_ble_eq_true rfl)) ?_
    refine sa_take_y 55 rfl rfl rfl rfl (rfl) (by kernel_rfl) .nil (pu_load_rpn rfl rfl ag_25 sz_25 (Nat.le_of_ble_eq_true rfl)) ?_
    apply sa_conf [.p 50 (some 71) [] _, .p 53 (some 74) [] _] (I := [(50, []), (53, [])]) (nT := 2) rfl rfl rfl (by kernel_rfl) .nil
    · refine (.cons ?_ (.cons ?_ .nil))
      · apply StepOk.p
        iterate 3 rfl
        intro β σX hσX
        refine sl_guard_y rfl rfl rfl (rfl) ?_
        refine sl_callp rfl rfl cal_12 (ileq_ok x y) ?_ ?_
        · repeat constructor
        exact sl_nil ⟨rfl, rfl, rfl, rfl⟩
      · apply StepOk.p
        iterate 3 rfl
        intro β σX hσX
        refine sl_guard_y rfl rfl rfl (rfl) ?_
        refine sl_bsn ([ivlV x, ivlV y]) rfl rfl (.cons rfl (.cons rfl .nil)) u_22 sz_25 zs_25 (by decide) rfl rfl rfl (SzI.get (by repeat constructor)) ?_
        exact sl_nil ⟨rfl, rfl, rfl, rfl⟩
    refine contT_p (contT_p (contT_nil ?_))
    refine sa_one 54 (by kernel_rfl) rfl ?_
    refine sl_guard_y rfl rfl rfl (rfl) ?_
    refine sl_callp rfl rfl cal_19 (imeet_ok [x, y] (by simp)) ?_ ?_
    · repeat constructor
    refine sl_nil ⟨.nil, ?_⟩
    refine sa_take_y 56 rfl rfl rfl rfl (rfl) (by kernel_rfl) .nil (pu_struct_eq rfl rfl rfl ag_25 eg_25 ek_25 rfl) ?_
    refine sa_take_y 57 rfl rfl rfl rfl (rfl) (by kernel_rfl) .nil (pu_bool_eq rfl rfl rfl u_4) ?_
    refine sa_set 78 (.val (.bool true)) (tt_bool (order_meet hx hy)) ?_
    refine sa_take 58 rfl rfl (by kernel_rfl) .nil (pu_pk_t rfl rfl (rfl) rfl) ?_
    refine sa_take 59 rfl rfl (by kernel_rfl) .nil (pu_mv rfl rfl) ?_
    refine sa_take_y 60 rfl rfl rfl rfl (rfl) (by kernel_rfl) .nil (pu_load_rpn rfl rfl ag_25 sz_25 (Nat.le_of_ble_eq_true rfl)) ?_
    refine sa_take_y 61 rfl rfl rfl rfl (rfl) (by kernel_rfl) .nil (pu_load_rpn rfl rfl ag_25 sz_25 (Nat.le_of_ble_eq_true rfl)) ?_
    refine sa_take_y 63 rfl rfl rfl rfl (rfl) (by kernel_rfl) .nil (pu_load_rpn rfl rfl ag_25 sz_25 (Nat.le_of_ble_eq_true rfl)) ?_
    refine sa_take_y 64 rfl rfl rfl rfl (rfl) (by kernel_rfl) .nil (pu_load_rpn rfl rfl ag_25 sz_25 (Nat.le_of_ble_eq_true rfl)) ?_
    refine sa_take_y 67 rfl rfl rfl rfl (rfl) (by kernel_rfl) .nil (pu_load_rpn rfl rfl ag_25 sz_25 (Nat.le_of_ble_eq_true rfl)) ?_
    apply sa_conf [.p 62 (some 83) [] _, .p 65 (some 86) [] _] (I := [(62, []), (65, [])]) (nT := 2) rfl rfl rfl (by kernel_rfl) .nil
    · refine (.cons ?_ (.cons ?_ .nil))
      · apply StepOk.p
        iterate 3 rfl
        intro β σX hσX
        refine sl_guard_y rfl rfl rfl (rfl) ?_
        refine sl_callp rfl rfl cal_12 (ileq_ok x y) ?_ ?_
        · repeat constructor
        exact sl_nil ⟨rfl, rfl, rfl, rfl⟩
      · apply StepOk.p
        iterate 3 rfl
        intro β σX hσX
        refine sl_guard_y rfl rfl rfl (rfl) ?_
        refine sl_bsn ([ivlV x, ivlV y]) rfl rfl (.cons rfl (.cons rfl .nil)) u_22 sz_25 zs_25 (by decide) rfl rfl rfl (SzI.get (by repeat constructor)) ?_
        exact sl_nil ⟨rfl, rfl, rfl, rfl⟩
    refine contT_p (contT_p (contT_nil ?_))
    refine sa_one 66 (by kernel_rfl) rfl ?_
    refine sl_guard_y rfl rfl rfl (rfl) ?_
    refine sl_callp rfl rfl cal_11 (ijoin_ok [x, y] (by simp)) ?_ ?_
    · repeat constructor
    refine sl_nil ⟨.nil, ?_⟩
    refine sa_take_y 68 rfl rfl rfl rfl (rfl) (by kernel_rfl) .nil (pu_struct_eq rfl rfl rfl ag_25 eg_25 ek_25 rfl) ?_
    refine sa_take_y 69 rfl rfl rfl rfl (rfl) (by kernel_rfl) .nil (pu_bool_eq rfl rfl rfl u_4) ?_
    refine sa_set 90 (.val (.bool true)) (tt_bool (order_join hx hy)) ?_
    refine sa_take 70 rfl rfl (by kernel_rfl) .nil (pu_pk_t rfl rfl (rfl) rfl) ?_
    refine sa_one 71 (by kernel_rfl) rfl ?_
    refine sl_as rfl rfl rfl ?_
    refine sl_nil ⟨.nil, ?_⟩
    refine sa_done (by kernel_rfl) ?_
    refine sw_ret ⟨rfl, _, _, res_one rfl rfl, ?_, ⟨rfl, rfl⟩⟩
    repeat constructor
  have k3 : leqI y z = true := by simpa using g3
  refine sa_take_y 32 rfl rfl rfl rfl g3 (by kernel_rfl) .nil (pu_load_rpn rfl rfl ag_25 sz_25 (Nat.le_of_ble_eq_true rfl)) ?_
  refine sa_take_y 33 rfl rfl rfl rfl g3 (by kernel_rfl) .nil (pu_load_rpn rfl rfl ag_25 sz_25 (Nat.le_of_ble_eq_true rfl)) ?_
  refine sa_one 34 (by kernel_rfl) rfl ?_
  refine sl_guard_y rfl rfl rfl g3 ?_
  refine sl_callp rfl rfl cal_12 (ileq_ok x z) ?_ ?_
  · repeat constructor
  refine sl_nil ⟨.nil, ?_⟩
  refine sa_set 55 (.val (.bool true)) (tt_of (order_trans hx hy hz k1 k3)) ?_
  refine sa_take_y 35 rfl rfl rfl rfl (rfl) (by kernel_rfl) .nil (pu_pk_f rfl rfl g3 rfl) ?_
  refine sa_take 36 rfl rfl (by kernel_rfl) .nil (pu_pk_t rfl rfl (rfl) rfl) ?_
  refine sa_take 37 rfl rfl (by kernel_rfl) .nil (pu_mv rfl rfl) ?_
  refine sa_take_y 39 rfl rfl rfl rfl (rfl) (by kernel_rfl) .nil (pu_load_rpn rfl rfl ag_25 sz_25 (Nat.le_of_ble_eq_true rfl)) ?_
  refine sa_one 38 (by kernel_rfl) rfl ?_
  refine sl_guard_y rfl rfl rfl (rfl) ?_
  refine sl_callp rfl rfl cal_9 (iempty_ok) ?_ ?_
  · repeat constructor
  refine sl_nil ⟨.nil, ?_⟩
  refine sa_one 40 (by kernel_rfl) rfl ?_
  refine sl_guard_y rfl rfl rfl (rfl) ?_
  refine sl_callp rfl rfl cal_12 (ileq_ok noIval x) ?_ ?_
  · repeat constructor
  refine sl_nil ⟨.nil, ?_⟩
  refine sa_set 61 (.val (.bool true)) (tt_of (order_no hx)) ?_
  refine sa_take 41 rfl rfl (by kernel_rfl) .nil (pu_pk_t rfl rfl (rfl) rfl) ?_
  refine sa_take 42 rfl rfl (by kernel_rfl) .nil (pu_mv rfl rfl) ?_
  refine sa_take_y 43 rfl rfl rfl rfl (rfl) (by kernel_rfl) .nil (pu_load_rpn rfl rfl ag_25 sz_25 (Nat.le_of_ble_eq_true rfl)) ?_
  refine sa_one 44 (by kernel_rfl) rfl ?_
  refine sl_guard_y rfl rfl rfl (rfl) ?_
  refine sl_callp rfl rfl cal_15 (itop_ok) ?_ ?_
  · repeat constructor
  refine sl_nil ⟨.nil, ?_⟩
  refine sa_one 45 (by kernel_rfl) rfl ?_
  refine sl_guard_y rfl rfl rfl (rfl) ?_
  refine sl_callp rfl rfl cal_12 (ileq_ok x topI) ?_ ?_
  · repeat constructor
  refine sl_nil ⟨.nil, ?_⟩
  refine sa_set 66 (.val (.bool true)) (tt_of (order_top hx)) ?_
  refine sa_take 46 rfl rfl (by kernel_rfl) .nil (pu_pk_t rfl rfl (rfl) rfl) ?_
  refine sa_take 47 rfl rfl (by kernel_rfl) .nil (pu_mv rfl rfl) ?_
  refine sa_take_y 48 rfl rfl rfl rfl (rfl) (by kernel_rfl) .nil (pu_load_rpn rfl rfl ag_25 sz_25 (Nat.le_of_ble_eq_true rfl)) ?_
  refine sa_take_y 49 rfl rfl rfl rfl (rfl) (by kernel_rfl) .nil (pu_load_rpn rfl rfl ag_25 sz_25 (Nat.le_of_ble_eq_true rfl)) ?_
  refine sa_take_y 51 rfl rfl rfl rfl (rfl) (by kernel_rfl) .nil (pu_load_rpn rfl rfl ag_25 sz_25 (Nat.le_of_ble_eq_true rfl)) ?_
  refine sa_take_y 52 rfl rfl rfl rfl (rfl) (by kernel_rfl) .nil (pu_load_rpn rfl rfl ag_25 sz_25 (Nat.le_of_ble_eq_true rfl)) ?_
  refine sa_take_y 55 rfl rfl rfl rfl (rfl) (by kernel_rfl) .nil (pu_load_rpn rfl rfl ag_25 sz_25 (Nat.le_of_ble_eq_true rfl)) ?_
  apply sa_conf [.p 50 (some 71) [] _, .p 53 (some 74) [] _] (I := [(50, []), (53, [])]) (nT := 2) rfl rfl rfl (by kernel_rfl) .nil
  · refine (.cons ?_ (.cons ?_ .nil))
    · apply StepOk.p
      iterate 3 rfl
      intro β σX hσX
      refine sl_guard_y rfl rfl rfl (rfl) ?_
      refine sl_callp rfl rfl cal_12 (ileq_ok x y) ?_ ?_
      · repeat constructor
      exact sl_nil ⟨rfl, rfl, rfl, rfl⟩
    · apply StepOk.p
      iterate 3 rfl
      intro β σX hσX
      refine sl_guard_y rfl rfl rfl (rfl) ?_
      refine sl_bsn ([ivlV x, ivlV y]) rfl rfl (.cons rfl (.cons rfl .nil)) u_22 sz_25 zs_25 (by decide) rfl rfl rfl (SzI.get (by repeat constructor)) ?_
      exact sl_nil ⟨rfl, rfl, rfl, rfl⟩
  refine contT_p (contT_p (contT_nil ?_))
  refine sa_one 54 (by kernel_rfl) rfl ?_
  refine sl_guard_y rfl rfl rfl (rfl) ?_
  refine sl_callp rfl rfl cal_19 (imeet_ok [x, y] (by simp)) ?_ ?_
  · repeat constructor
  refine sl_nil ⟨.nil, ?_⟩
  refine sa_take_y 56 rfl rfl rfl rfl (rfl) (by kernel_rfl) .nil (pu_struct_eq rfl rfl rfl ag_25 eg_25 ek_25 rfl) ?_
  refine sa_take_y 57 rfl rfl rfl rfl (rfl) (by kernel_rfl) .nil (pu_bool_eq rfl rfl rfl u_4) ?_
  refine sa_set 78 (.val (.bool true)) (tt_bool (order_meet hx hy)) ?_
  refine sa_take 58 rfl rfl (by kernel_rfl) .nil (pu_pk_t rfl rfl (rfl) rfl) ?_
  refine sa_take 59 rfl rfl (by kernel_rfl) .nil (pu_mv rfl rfl) ?_
  refine sa_take_y 60 rfl rfl rfl rfl (rfl) (by kernel_rfl) .nil (pu_load_rpn rfl rfl ag_25 sz_25 (Nat.le_of_ble_eq_true rfl)) ?_
  refine sa_take_y 61 rfl rfl rfl rfl (rfl) (by kernel_rfl) .nil (pu_load_rpn rfl rfl ag_25 sz_25 (Nat.le_of_ble_eq_true rfl)) ?_
  refine sa_take_y 63 rfl rfl rfl rfl (rfl) (by kernel_rfl) .nil (pu_load_rpn rfl rfl ag_25 sz_25 (Nat.le_of_ble_eq_true rfl)) ?_
  refine sa_take_y 64 rfl rfl rfl rfl (rfl) (by kernel_rfl) .nil (pu_load_rpn rfl rfl ag_25 sz_25 (Nat.le_of_ble_eq_true rfl)) ?_
  refine sa_take_y 67 rfl rfl rfl rfl (rfl) (by kernel_rfl) .nil (pu_load_rpn rfl rfl ag_25 sz_25 (Nat.le_of_ble_eq_true rfl)) ?_
  apply sa_conf [.p 62 (some 83) [] _, .p 65 (some 86) [] _] (I := [(62, []), (65, [])]) (nT := 2) rfl rfl rfl (by kernel_rfl) .nil
  · refine (.cons ?_ (.cons ?_ .nil))
    · apply StepOk.p
      iterate 3 rfl
      intro β σX hσX
      refine sl_guard_y rfl rfl rfl (rfl) ?_
      refine sl_callp rfl rfl cal_12 (ileq_ok x y) ?_ ?_
      · repeat constructor
      exact sl_nil ⟨rfl, rfl, rfl, rfl⟩
    · apply StepOk.p
      iterate 3 rfl
      intro β σX hσX
      refine sl_guard_y rfl rfl rfl (rfl) ?_
      refine sl_bsn ([ivlV x, ivlV y]) rfl rfl (.cons rfl (.cons rfl .nil)) u_22 sz_25 zs_25 (by decide) rfl rfl rfl (SzI.get (by repeat constructor)) ?_
      exact sl_nil ⟨rfl, rfl, rfl, rfl⟩
  refine contT_p (contT_p (contT_nil ?_))
  refine sa_one 66 (by kernel_rfl) rfl ?_
  refine sl_guard_y rfl rfl rfl (rfl) ?_
  refine sl_callp rfl rfl cal_11 (ijoin_ok [x, y] (by simp)) ?_ ?_
  · repeat constructor
  refine sl_nil ⟨.nil, ?_⟩
  refine sa_take_y 68 rfl rfl rfl rfl (rfl) (by kernel_rfl) .nil (pu_struct_eq rfl rfl rfl ag_25 eg_25 ek_25 rfl) ?_
  refine sa_take_y 69 rfl rfl rfl rfl (rfl) (by kernel_rfl) .nil (pu_bool_eq rfl rfl rfl u_4) ?_
  refine sa_set 90 (.val (.bool true)) (tt_bool (order_join hx hy)) ?_
  refine sa_take 70 rfl rfl (by kernel_rfl) .nil (pu_pk_t rfl rfl (rfl) rfl) ?_
  refine sa_one 71 (by kernel_rfl) rfl ?_
  refine sl_as rfl rfl rfl ?_
  refine sl_nil ⟨.nil, ?_⟩
  refine sa_done (by kernel_rfl) ?_
  refine sw_ret ⟨rfl, _, _, res_one rfl rfl, ?_, ⟨rfl, rfl⟩⟩
  repeat constructor

end Go.Proofs.YtipacoopapjdpaaDoor

/- Walks: printed by a program of this session out of its script IvalH. -/
namespace Go.Proofs.YtipacoopapjdpaaDoor
set_option linter.unusedVariables false
set_option linter.unusedSimpArgs false
set_option maxRecDepth 4000
set_option maxHeartbeats 4000000
open Go Go.RowKit SL



theorem ivalLattice_ok (a b c : Ivl) (n : Int) (ha : IvlOk a) (hb : IvlOk b) (hc : IvlOk c) : FSpec Tryd.prog 6 [.val (ivlV a), .val (ivlV b), .val (ivlV c), .val (.int .i64 n)] [] (fun d σ' => d = .val (.bool true) ∧ σ' = []) := by
  obtain ⟨J, hJ⟩ : ∃ x, x = joinL [a, b] := ⟨_, rfl⟩
  obtain ⟨M, hM⟩ : ∃ x, x = meetL [a, b] := ⟨_, rfl⟩
  refine spec_of_sw Tryd.func6 rfl ?_
  refine sw_seq ?_
  refine sl_region ?_
  refine sl_bx_imm rfl rfl rfl rfl rfl ?_
  refine sl_bx_imm rfl rfl rfl rfl rfl ?_
  refine sl_bx_imm rfl rfl rfl rfl rfl ?_
  refine sl_as rfl rfl rfl ?_
  refine sl_nil ?_
  refine sw_seq ?_
  refine sw_seq ?_
  refine sl_region ?_
  refine sl_callp rfl rfl cal_8 (known12_ok) ?_ ?_
  · repeat constructor
  refine sl_not rfl rfl rfl ?_
  refine sl_nil ?_
  refine sw_false rfl (rfl) ?_
  refine sw_skip ?_
  refine sw_seq ?_
  refine sa_start [] mixed ?_
  refine sa_take 0 rfl rfl (by kernel_rfl) .nil (pu_load_rpn rfl rfl ag_25 sz_25 (Nat.le_of_ble_eq_true rfl)) ?_
  refine sa_take 1 rfl rfl (by kernel_rfl) .nil (pu_load_rpn rfl rfl ag_25 sz_25 (Nat.le_of_ble_eq_true rfl)) ?_
  refine sa_take 4 rfl rfl (by kernel_rfl) .nil (pu_load_rpn rfl rfl ag_25 sz_25 (Nat.le_of_ble_eq_true rfl)) ?_
  refine sa_take 5 rfl rfl (by kernel_rfl) .nil (pu_load_rpn rfl rfl ag_25 sz_25 (Nat.le_of_ble_eq_true rfl)) ?_
  apply sa_conf [.p 2 (some 15) [] _, .p 3 (some 16) [0] _, .p 6 (some 19) [] _, .p 7 (some 20) [1, 2] _, .n 8 9 [.val (.bool false), .val (.int .i64 0), .val (.int .i64 0)], .n 9 10 [.val (.bool false), .val (.int .i64 0), .val (.int .i64 0)]] (I := [(2, []), (3, [0]), (6, []), (7, [1, 2]), (8, []), (9, [])]) (nT := 6) rfl rfl rfl (by kernel_rfl) .nil
  · refine (.cons ?_ (.cons ?_ (.cons ?_ (.cons ?_ (.cons ?_ (.cons ?_ .nil))))))
    · apply StepOk.p
      iterate 3 rfl
      intro β σX hσX
      refine sl_bsn ([ivlV a, ivlV b]) rfl rfl (.cons rfl (.cons rfl .nil)) u_22 sz_25 zs_25 (by decide) rfl rfl rfl (SzI.get (by repeat constructor)) ?_
      exact sl_nil ⟨rfl, rfl, rfl, rfl⟩
    · apply StepOk.p
      iterate 3 rfl
      intro β σX hσX
      show SL _ _ _ _ (sput _ (some 15) _) _ _
      refine sl_callp rfl rfl cal_11 ((fun σ => hJ ▸ ijoin_ok [a, b] (by simp) σ)) ?_ ?_
      · repeat constructor
      exact sl_nil ⟨rfl, rfl, rfl, rfl⟩
    · apply StepOk.p
      iterate 3 rfl
      intro β σX hσX
      refine sl_bsn ([ivlV a, ivlV b]) rfl rfl (.cons rfl (.cons rfl .nil)) u_22 sz_25 zs_25 (by decide) rfl rfl rfl (SzI.get (by repeat constructor)) ?_
      exact sl_nil ⟨rfl, rfl, rfl, rfl⟩
    · apply StepOk.p
      iterate 3 rfl
      intro β σX hσX
      show SL _ _ _ _ (sput (sput _ (some 16) _) (some 19) _) _ _
      refine sl_callp rfl rfl cal_19 ((fun σ => hM ▸ imeet_ok [a, b] (by simp) σ)) ?_ ?_
      · repeat constructor
      exact sl_nil ⟨rfl, rfl, rfl, rfl⟩
    · refine .n rfl rfl rfl (fun σX => ?_)
      exact sl_alloc rfl rfl zd_25 (fun b => sl_nil ⟨rfl, b, rfl, rfl, rfl⟩)
    · refine .n rfl rfl rfl (fun σX => ?_)
      exact sl_alloc rfl rfl zd_25 (fun b => sl_nil ⟨rfl, b, rfl, rfl, rfl⟩)
  refine contT_p (contT_p (contT_p (contT_p (contT_n fun b9 => contT_n fun b10 => contT_nil ?_))))
  refine sa_one 10 (by kernel_rfl) rfl ?_
  refine sl_stp rfl rfl rfl rfl sz_25 rfl rfl rfl (by repeat constructor) (Nat.le_of_ble_eq_true rfl) ?_
  refine sl_nil ⟨.nil, ?_⟩
  refine sa_one 11 (by kernel_rfl) rfl ?_
  refine sl_stp rfl rfl rfl rfl sz_25 rfl rfl rfl (by repeat constructor) (Nat.le_of_ble_eq_true rfl) ?_
  refine sl_nil ⟨.nil, ?_⟩
  refine sa_done (by kernel_rfl) ?_
  refine sw_seq ?_
  refine sw_seq ?_
  refine sw_fz 9 rfl rfl (by repeat constructor) ?_
  refine sw_fz 10 rfl rfl (by repeat constructor) ?_
  refine sa_start [] mixed ?_
  refine sa_take 0 rfl rfl (by kernel_rfl) .nil (pu_load_rpn rfl rfl ag_25 sz_25 (Nat.le_of_ble_eq_true rfl)) ?_
  refine sa_take 1 rfl rfl (by kernel_rfl) .nil (pu_load_rpn rfl rfl ag_25 sz_25 (Nat.le_of_ble_eq_true rfl)) ?_
  refine sa_take 2 rfl rfl (by kernel_rfl) .nil (pu_load_rpn rfl rfl ag_25 sz_25 (Nat.le_of_ble_eq_true rfl)) ?_
  refine sa_one 3 (by kernel_rfl) rfl ?_
  refine sl_bsn ([ivlV b, ivlV a]) rfl rfl (.cons rfl (.cons rfl .nil)) u_22 sz_25 zs_25 (by decide) rfl rfl rfl (SzI.get (by repeat constructor)) ?_
  refine sl_nil ⟨.nil, ?_⟩
  refine sa_one 4 (by kernel_rfl) rfl ?_
  refine sl_callp rfl rfl cal_11 (ijoin_ok [b, a] (by simp)) ?_ ?_
  · repeat constructor
  refine sl_nil ⟨.nil, ?_⟩
  refine sa_take 5 rfl rfl (by kernel_rfl) .nil (pu_struct_ne rfl rfl rfl ag_25 eg_25 ek_25 rfl) ?_
  refine sa_set 26 (.val (.bool false)) (ff_ivl (x := J) (y := joinL [b, a]) (by rw [hJ]; exact join_comm ha hb)) ?_
  refine sa_take 6 rfl rfl (by kernel_rfl) .nil (pu_mv rfl rfl) ?_
  refine sa_take_y 7 rfl rfl rfl rfl (rfl) (by kernel_rfl) .nil (pu_load_rpn rfl rfl ag_25 sz_25 (Nat.le_of_ble_eq_true rfl)) ?_
  refine sa_take_y 8 rfl rfl rfl rfl (rfl) (by kernel_rfl) .nil (pu_load_rpn rfl rfl ag_25 sz_25 (Nat.le_of_ble_eq_true rfl)) ?_
  refine sa_take_y 9 rfl rfl rfl rfl (rfl) (by kernel_rfl) .nil (pu_load_rpn rfl rfl ag_25 sz_25 (Nat.le_of_ble_eq_true rfl)) ?_
  refine sa_one 10 (by kernel_rfl) rfl ?_
  refine sl_guard_y rfl rfl rfl (rfl) ?_
  refine sl_bsn ([ivlV b, ivlV a]) rfl rfl (.cons rfl (.cons rfl .nil)) u_22 sz_25 zs_25 (by decide) rfl rfl rfl (SzI.get (by repeat constructor)) ?_
  refine sl_nil ⟨.nil, ?_⟩
  refine sa_one 11 (by kernel_rfl) rfl ?_
  refine sl_guard_y rfl rfl rfl (rfl) ?_
  refine sl_callp rfl rfl cal_19 (imeet_ok [b, a] (by simp)) ?_ ?_
  · repeat constructor
  refine sl_nil ⟨.nil, ?_⟩
  refine sa_take_y 12 rfl rfl rfl rfl (rfl) (by kernel_rfl) .nil (pu_struct_ne rfl rfl rfl ag_25 eg_25 ek_25 rfl) ?_
  refine sa_set 33 (.val (.bool false)) (ff_ivl (x := M) (y := meetL [b, a]) (by rw [hM]; exact meet_comm ha hb)) ?_
  refine sa_take 13 rfl rfl (by kernel_rfl) .nil (pu_pk_f rfl rfl (rfl) rfl) ?_
  refine sa_take 14 rfl rfl (by kernel_rfl) .nil (pu_mv rfl rfl) ?_
  refine sa_take_y 15 rfl rfl rfl rfl (rfl) (by kernel_rfl) .nil (pu_load_rpn rfl rfl ag_25 sz_25 (Nat.le_of_ble_eq_true rfl)) ?_
  refine sa_take_y 16 rfl rfl rfl rfl (rfl) (by kernel_rfl) .nil (pu_load_rpn rfl rfl ag_25 sz_25 (Nat.le_of_ble_eq_true rfl)) ?_
  refine sa_take_y 19 rfl rfl rfl rfl (rfl) (by kernel_rfl) .nil (pu_load_rpn rfl rfl ag_25 sz_25 (Nat.le_of_ble_eq_true rfl)) ?_
  refine sa_take_y 20 rfl rfl rfl rfl (rfl) (by kernel_rfl) .nil (pu_load_rpn rfl rfl ag_25 sz_25 (Nat.le_of_ble_eq_true rfl)) ?_
  refine sa_take_y 21 rfl rfl rfl rfl (rfl) (by kernel_rfl) .nil (pu_load_rpn rfl rfl ag_25 sz_25 (Nat.le_of_ble_eq_true rfl)) ?_
  apply sa_conf [.p 17 (some 38) [] _, .p 18 (some 39) [0] _, .p 22 (some 43) [] _] (I := [(17, []), (18, [0]), (22, [])]) (nT := 3) rfl rfl rfl (by kernel_rfl) .nil
  · refine (.cons ?_ (.cons ?_ (.cons ?_ .nil)))
    · apply StepOk.p
      iterate 3 rfl
      intro β σX hσX
      refine sl_guard_y rfl rfl rfl (rfl) ?_
      refine sl_bsn ([ivlV J, ivlV c]) rfl rfl (.cons rfl (.cons rfl .nil)) u_22 sz_25 zs_25 (by decide) rfl rfl rfl (SzI.get (by repeat constructor)) ?_
      exact sl_nil ⟨rfl, rfl, rfl, rfl⟩
    · apply StepOk.p
      iterate 3 rfl
      intro β σX hσX
      show SL _ _ _ _ (sput _ (some 38) _) _ _
      refine sl_guard_y rfl rfl rfl (rfl) ?_
      refine sl_callp rfl rfl cal_11 (ijoin_ok [J, c] (by simp)) ?_ ?_
      · repeat constructor
      exact sl_nil ⟨rfl, rfl, rfl, rfl⟩
    · apply StepOk.p
      iterate 3 rfl
      intro β σX hσX
      refine sl_guard_y rfl rfl rfl (rfl) ?_
      refine sl_bsn ([ivlV b, ivlV c]) rfl rfl (.cons rfl (.cons rfl .nil)) u_22 sz_25 zs_25 (by decide) rfl rfl rfl (SzI.get (by repeat constructor)) ?_
      exact sl_nil ⟨rfl, rfl, rfl, rfl⟩
  refine contT_p (contT_p (contT_p (contT_nil ?_)))
  refine sa_one 23 (by kernel_rfl) rfl ?_
  refine sl_guard_y rfl rfl rfl (rfl) ?_
  refine sl_callp rfl rfl cal_11 (ijoin_ok [b, c] (by simp)) ?_ ?_
  · repeat constructor
  refine sl_nil ⟨.nil, ?_⟩
  refine sa_one 24 (by kernel_rfl) rfl ?_
  refine sl_guard_y rfl rfl rfl (rfl) ?_
  refine sl_bsn ([ivlV a, ivlV (joinL [b, c])]) rfl rfl (.cons rfl (.cons rfl .nil)) u_22 sz_25 zs_25 (by decide) rfl rfl rfl (SzI.get (by repeat constructor)) ?_
  refine sl_nil ⟨.nil, ?_⟩
  refine sa_one 25 (by kernel_rfl) rfl ?_
  refine sl_guard_y rfl rfl rfl (rfl) ?_
  refine sl_callp rfl rfl cal_11 (ijoin_ok [a, joinL [b, c]] (by simp)) ?_ ?_
  · repeat constructor
  refine sl_nil ⟨.nil, ?_⟩
  refine sa_take_y 26 rfl rfl rfl rfl (rfl) (by kernel_rfl) .nil (pu_struct_ne rfl rfl rfl ag_25 eg_25 ek_25 rfl) ?_
  refine sa_set 47 (.val (.bool false)) (ff_ivl (x := joinL [J, c]) (y := joinL [a, joinL [b, c]]) (by rw [hJ]; exact join_assoc ha hb hc)) ?_
  refine sa_take 27 rfl rfl (by kernel_rfl) .nil (pu_pk_f rfl rfl (rfl) rfl) ?_
  refine sa_take 28 rfl rfl (by kernel_rfl) .nil (pu_mv rfl rfl) ?_
  refine sa_take_y 29 rfl rfl rfl rfl (rfl) (by kernel_rfl) .nil (pu_load_rpn rfl rfl ag_25 sz_25 (Nat.le_of_ble_eq_true rfl)) ?_
  refine sa_take_y 30 rfl rfl rfl rfl (rfl) (by kernel_rfl) .nil (pu_load_rpn rfl rfl ag_25 sz_25 (Nat.le_of_ble_eq_true rfl)) ?_
  refine sa_take_y 33 rfl rfl rfl rfl (rfl) (by kernel_rfl) .nil (pu_load_rpn rfl rfl ag_25 sz_25 (Nat.le_of_ble_eq_true rfl)) ?_
  refine sa_take_y 34 rfl rfl rfl rfl (rfl) (by kernel_rfl) .nil (pu_load_rpn rfl rfl ag_25 sz_25 (Nat.le_of_ble_eq_true rfl)) ?_
  refine sa_take_y 35 rfl rfl rfl rfl (rfl) (by kernel_rfl) .nil (pu_load_rpn rfl rfl ag_25 sz_25 (Nat.le_of_ble_eq_true rfl)) ?_
  apply sa_conf [.p 31 (some 52) [] _, .p 32 (some 53) [0] _, .p 36 (some 57) [] _] (I := [(31, []), (32, [0]), (36, [])]) (nT := 3) rfl rfl rfl (by kernel_rfl) .nil
  · refine (.cons ?_ (.cons ?_ (.cons ?_ .nil)))
    · apply StepOk.p
      iterate 3 rfl
      intro β σX hσX
      refine sl_guard_y rfl rfl rfl (rfl) ?_
      refine sl_bsn ([ivlV M, ivlV c]) rfl rfl (.cons rfl (.cons rfl .nil)) u_22 sz_25 zs_25 (by decide) rfl rfl rfl (SzI.get (by repeat constructor)) ?_
      exact sl_nil ⟨rfl, rfl, rfl, rfl⟩
    · apply StepOk.p
      iterate 3 rfl
      intro β σX hσX
      show SL _ _ _ _ (sput _ (some 52) _) _ _
      refine sl_guard_y rfl rfl rfl (rfl) ?_
      refine sl_callp rfl rfl cal_19 (imeet_ok [M, c] (by simp)) ?_ ?_
      · repeat constructor
      exact sl_nil ⟨rfl, rfl, rfl, rfl⟩
    · apply StepOk.p
      iterate 3 rfl
      intro β σX hσX
      refine sl_guard_y rfl rfl rfl (rfl) ?_
      refine sl_bsn ([ivlV b, ivlV c]) rfl rfl (.cons rfl (.cons rfl .nil)) u_22 sz_25 zs_25 (by decide) rfl rfl rfl (SzI.get (by repeat constructor)) ?_
      exact sl_nil ⟨rfl, rfl, rfl, rfl⟩
  refine contT_p (contT_p (contT_p (contT_nil ?_)))
  refine sa_one 37 (by kernel_rfl) rfl ?_
  refine sl_guard_y rfl rfl rfl (rfl) ?_
  refine sl_callp rfl rfl cal_19 (imeet_ok [b, c] (by simp)) ?_ ?_
  · repeat constructor
  refine sl_nil ⟨.nil, ?_⟩
  refine sa_one 38 (by kernel_rfl) rfl ?_
  refine sl_guard_y rfl rfl rfl (rfl) ?_
  refine sl_bsn ([ivlV a, ivlV (meetL [b, c])]) rfl rfl (.cons rfl (.cons rfl .nil)) u_22 sz_25 zs_25 (by decide) rfl rfl rfl (SzI.get (by repeat constructor)) ?_
  refine sl_nil ⟨.nil, ?_⟩
  refine sa_one 39 (by kernel_rfl) rfl ?_
  refine sl_guard_y rfl rfl rfl (rfl) ?_
  refine sl_callp rfl rfl cal_19 (imeet_ok [a, meetL [b, c]] (by simp)) ?_ ?_
  · repeat constructor
  refine sl_nil ⟨.nil, ?_⟩
  refine sa_take_y 40 rfl rfl rfl rfl (rfl) (by kernel_rfl) .nil (pu_struct_ne rfl rfl rfl ag_25 eg_25 ek_25 rfl) ?_
  refine sa_set 61 (.val (.bool false)) (ff_ivl (x := meetL [M, c]) (y := meetL [a, meetL [b, c]]) (by rw [hM]; exact meet_assoc ha hb hc)) ?_
  refine sa_take 41 rfl rfl (by kernel_rfl) .nil (pu_pk_f rfl rfl (rfl) rfl) ?_
  refine sa_done (by kernel_rfl) ?_
  refine sw_false rfl (rfl) ?_
  refine sw_skip ?_
  refine sw_seq ?_
  refine sw_seq ?_
  refine sw_cutx (fun sX δX σX => sX = ⟨153, (.cons 116 (.val (.bool false)) (.cons 3 (.val (.int .i64 n)) (.cons 4 (.rp (ivlV a).cells) (.cons 5 (.rp (ivlV b).cells) (.cons 9 (.rp (ivlV J).cells) (.cons 10 (.rp (ivlV M).cells) .nil))))))⟩ ∧ δX = [] ∧ σX = []) ?_ ?_
  · refine sl_region ?_
    first
      | refine sl_load_rpn rfl rfl rfl ag_25 sz_25 (Nat.le_of_ble_eq_true rfl) ?_
      | refine sl_load_blkn rfl rfl rfl ag_25 sz_25 (by repeat constructor) (Nat.le_of_ble_eq_true rfl) ?_
      | refine sl_load_ref rfl rfl rfl ag_25 sz_25 (Nat.le_of_ble_eq_true rfl) ?_
    first
      | refine sl_load_rpn rfl rfl rfl ag_25 sz_25 (Nat.le_of_ble_eq_true rfl) ?_
      | refine sl_load_blkn rfl rfl rfl ag_25 sz_25 (by repeat constructor) (Nat.le_of_ble_eq_true rfl) ?_
      | refine sl_load_ref rfl rfl rfl ag_25 sz_25 (Nat.le_of_ble_eq_true rfl) ?_
    refine sl_callp rfl rfl cal_12 (ileq_ok a J) ?_ ?_
    · repeat constructor
    refine sl_not rfl rfl rfl ?_
    refine sl_set 66 (.val (.bool false)) (not_tt (by rw [hJ]; exact leq_join_l ha hb)) ?_
    refine sl_mv rfl rfl rfl ?_
    refine sl_guard_y rfl rfl rfl (rfl) ?_
    first
      | refine sl_load_rpn rfl rfl rfl ag_25 sz_25 (Nat.le_of_ble_eq_true rfl) ?_
      | refine sl_load_blkn rfl rfl rfl ag_25 sz_25 (by repeat constructor) (Nat.le_of_ble_eq_true rfl) ?_
      | refine sl_load_ref rfl rfl rfl ag_25 sz_25 (Nat.le_of_ble_eq_true rfl) ?_
    refine sl_guard_y rfl rfl rfl (rfl) ?_
    first
      | refine sl_load_rpn rfl rfl rfl ag_25 sz_25 (Nat.le_of_ble_eq_true rfl) ?_
      | refine sl_load_blkn rfl rfl rfl ag_25 sz_25 (by repeat constructor) (Nat.le_of_ble_eq_true rfl) ?_
      | refine sl_load_ref rfl rfl rfl ag_25 sz_25 (Nat.le_of_ble_eq_true rfl) ?_
    refine sl_guard_y rfl rfl rfl (rfl) ?_
    refine sl_callp rfl rfl cal_12 (ileq_ok b J) ?_ ?_
    · repeat constructor
    refine sl_guard_y rfl rfl rfl (rfl) ?_
    refine sl_not rfl rfl rfl ?_
    refine sl_set 71 (.val (.bool false)) (not_tt (by rw [hJ]; exact leq_join_r ha hb)) ?_
    refine sl_pk_f rfl rfl rfl (rfl) rfl ?_
    refine sl_mv rfl rfl rfl ?_
    refine sl_guard_y rfl rfl rfl (rfl) ?_
    first
      | refine sl_load_rpn rfl rfl rfl ag_25 sz_25 (Nat.le_of_ble_eq_true rfl) ?_
      | refine sl_load_blkn rfl rfl rfl ag_25 sz_25 (by repeat constructor) (Nat.le_of_ble_eq_true rfl) ?_
      | refine sl_load_ref rfl rfl rfl ag_25 sz_25 (Nat.le_of_ble_eq_true rfl) ?_
    refine sl_guard_y rfl rfl rfl (rfl) ?_
    first
      | refine sl_load_rpn rfl rfl rfl ag_25 sz_25 (Nat.le_of_ble_eq_true rfl) ?_
      | refine sl_load_blkn rfl rfl rfl ag_25 sz_25 (by repeat constructor) (Nat.le_of_ble_eq_true rfl) ?_
      | refine sl_load_ref rfl rfl rfl ag_25 sz_25 (Nat.le_of_ble_eq_true rfl) ?_
    refine sl_guard_y rfl rfl rfl (rfl) ?_
    refine sl_callp rfl rfl cal_12 (ileq_ok M a) ?_ ?_
    · repeat constructor
    refine sl_guard_y rfl rfl rfl (rfl) ?_
    refine sl_not rfl rfl rfl ?_
    refine sl_set 77 (.val (.bool false)) (not_tt (by rw [hM]; exact leq_meet_l ha hb)) ?_
    refine sl_pk_f rfl rfl rfl (rfl) rfl ?_
    refine sl_mv rfl rfl rfl ?_
    refine sl_guard_y rfl rfl rfl (rfl) ?_
    first
      | refine sl_load_rpn rfl rfl rfl ag_25 sz_25 (Nat.le_of_ble_eq_true rfl) ?_
      | refine sl_load_blkn rfl rfl rfl ag_25 sz_25 (by repeat constructor) (Nat.le_of_ble_eq_true rfl) ?_
      | refine sl_load_ref rfl rfl rfl ag_25 sz_25 (Nat.le_of_ble_eq_true rfl) ?_
    refine sl_guard_y rfl rfl rfl (rfl) ?_
    first
      | refine sl_load_rpn rfl rfl rfl ag_25 sz_25 (Nat.le_of_ble_eq_true rfl) ?_
      | refine sl_load_blkn rfl rfl rfl ag_25 sz_25 (by repeat constructor) (Nat.le_of_ble_eq_true rfl) ?_
      | refine sl_load_ref rfl rfl rfl ag_25 sz_25 (Nat.le_of_ble_eq_true rfl) ?_
    refine sl_guard_y rfl rfl rfl (rfl) ?_
    refine sl_callp rfl rfl cal_12 (ileq_ok M b) ?_ ?_
    · repeat constructor
    refine sl_guard_y rfl rfl rfl (rfl) ?_
    refine sl_not rfl rfl rfl ?_
    refine sl_set 83 (.val (.bool false)) (not_tt (by rw [hM]; exact leq_meet_r ha hb)) ?_
    refine sl_pk_f rfl rfl rfl (rfl) rfl ?_
    refine sl_mv rfl rfl rfl ?_
    refine sl_guard_y rfl rfl rfl (rfl) ?_
    first
      | refine sl_load_rpn rfl rfl rfl ag_25 sz_25 (Nat.le_of_ble_eq_true rfl) ?_
      | refine sl_load_blkn rfl rfl rfl ag_25 sz_25 (by repeat constructor) (Nat.le_of_ble_eq_true rfl) ?_
      | refine sl_load_ref rfl rfl rfl ag_25 sz_25 (Nat.le_of_ble_eq_true rfl) ?_
    refine sl_guard_y rfl rfl rfl (rfl) ?_
    first
      | refine sl_load_rpn rfl rfl rfl ag_25 sz_25 (Nat.le_of_ble_eq_true rfl) ?_
      | refine sl_load_blkn rfl rfl rfl ag_25 sz_25 (by repeat constructor) (Nat.le_of_ble_eq_true rfl) ?_
      | refine sl_load_ref rfl rfl rfl ag_25 sz_25 (Nat.le_of_ble_eq_true rfl) ?_
    refine sl_guard_y rfl rfl rfl (rfl) ?_
    refine sl_callp rfl rfl cal_12 (ileq_ok a c) ?_ ?_
    · repeat constructor
    refine sl_guard_y rfl rfl rfl (rfl) ?_
    refine sl_mv rfl rfl rfl ?_
    refine sl_case_at 89 rfl (fun g1 => ?_) (fun g1 => ?_)
    · have g1 : leqI a c = true := g1
      refine sl_guard_y rfl rfl rfl g1 ?_
      first
        | refine sl_load_rpn rfl rfl rfl ag_25 sz_25 (Nat.le_of_ble_eq_true rfl) ?_
        | refine sl_load_blkn rfl rfl rfl ag_25 sz_25 (by repeat constructor) (Nat.le_of_ble_eq_true rfl) ?_
        | refine sl_load_ref rfl rfl rfl ag_25 sz_25 (Nat.le_of_ble_eq_true rfl) ?_
      refine sl_guard_y rfl rfl rfl g1 ?_
      first
        | refine sl_load_rpn rfl rfl rfl ag_25 sz_25 (Nat.le_of_ble_eq_true rfl) ?_
        | refine sl_load_blkn rfl rfl rfl ag_25 sz_25 (by repeat constructor) (Nat.le_of_ble_eq_true rfl) ?_
        | refine sl_load_ref rfl rfl rfl ag_25 sz_25 (Nat.le_of_ble_eq_true rfl) ?_
      refine sl_guard_y rfl rfl rfl g1 ?_
      refine sl_callp rfl rfl cal_12 (ileq_ok b c) ?_ ?_
      · repeat constructor
      refine sl_guard_y rfl rfl rfl (rfl) ?_
      refine sl_pk_t rfl rfl rfl g1 rfl ?_
      refine sl_guard_y rfl rfl rfl (rfl) ?_
      refine sl_mv rfl rfl rfl ?_
      refine sl_case_at 94 rfl (fun g2 => ?_) (fun g2 => ?_)
      · have g2 : leqI b c = true := g2
        refine sl_guard_y rfl rfl rfl g2 ?_
        first
          | refine sl_load_rpn rfl rfl rfl ag_25 sz_25 (Nat.le_of_ble_eq_true rfl) ?_
          | refine sl_load_blkn rfl rfl rfl ag_25 sz_25 (by repeat constructor) (Nat.le_of_ble_eq_true rfl) ?_
          | refine sl_load_ref rfl rfl rfl ag_25 sz_25 (Nat.le_of_ble_eq_true rfl) ?_
        refine sl_guard_y rfl rfl rfl g2 ?_
        first
          | refine sl_load_rpn rfl rfl rfl ag_25 sz_25 (Nat.le_of_ble_eq_true rfl) ?_
          | refine sl_load_blkn rfl rfl rfl ag_25 sz_25 (by repeat constructor) (Nat.le_of_ble_eq_true rfl) ?_
          | refine sl_load_ref rfl rfl rfl ag_25 sz_25 (Nat.le_of_ble_eq_true rfl) ?_
        refine sl_guard_y rfl rfl rfl g2 ?_
        refine sl_callp rfl rfl cal_12 (ileq_ok J c) ?_ ?_
        · repeat constructor
        refine sl_guard_y rfl rfl rfl g2 ?_
        refine sl_not rfl rfl rfl ?_
        refine sl_set 98 (.val (.bool false)) (not_tt (by rw [hJ]; exact leq_join_least ha hb hc g1 g2)) ?_
        refine sl_guard_y rfl rfl rfl (rfl) ?_
        refine sl_pk_t rfl rfl rfl g2 rfl ?_
        refine sl_pk_f rfl rfl rfl (rfl) rfl ?_
        refine sl_mv rfl rfl rfl ?_
        refine sl_guard_y rfl rfl rfl (rfl) ?_
        first
          | refine sl_load_rpn rfl rfl rfl ag_25 sz_25 (Nat.le_of_ble_eq_true rfl) ?_
          | refine sl_load_blkn rfl rfl rfl ag_25 sz_25 (by repeat constructor) (Nat.le_of_ble_eq_true rfl) ?_
          | refine sl_load_ref rfl rfl rfl ag_25 sz_25 (Nat.le_of_ble_eq_true rfl) ?_
        refine sl_guard_y rfl rfl rfl (rfl) ?_
        first
          | refine sl_load_rpn rfl rfl rfl ag_25 sz_25 (Nat.le_of_ble_eq_true rfl) ?_
          | refine sl_load_blkn rfl rfl rfl ag_25 sz_25 (by repeat constructor) (Nat.le_of_ble_eq_true rfl) ?_
          | refine sl_load_ref rfl rfl rfl ag_25 sz_25 (Nat.le_of_ble_eq_true rfl) ?_
        refine sl_guard_y rfl rfl rfl (rfl) ?_
        refine sl_callp rfl rfl cal_12 (ileq_ok c a) ?_ ?_
        · repeat constructor
        refine sl_guard_y rfl rfl rfl (rfl) ?_
        refine sl_mv rfl rfl rfl ?_
        refine sl_case_at 105 rfl (fun g3 => ?_) (fun g3 => ?_)
        · have g3 : leqI c a = true := g3
          refine sl_guard_y rfl rfl rfl g3 ?_
          first
            | refine sl_load_rpn rfl rfl rfl ag_25 sz_25 (Nat.le_of_ble_eq_true rfl) ?_
            | refine sl_load_blkn rfl rfl rfl ag_25 sz_25 (by repeat constructor) (Nat.le_of_ble_eq_true rfl) ?_
            | refine sl_load_ref rfl rfl rfl ag_25 sz_25 (Nat.le_of_ble_eq_true rfl) ?_
          refine sl_guard_y rfl rfl rfl g3 ?_
          first
            | refine sl_load_rpn rfl rfl rfl ag_25 sz_25 (Nat.le_of_ble_eq_true rfl) ?_
            | refine sl_load_blkn rfl rfl rfl ag_25 sz_25 (by repeat constructor) (Nat.le_of_ble_eq_true rfl) ?_
            | refine sl_load_ref rfl rfl rfl ag_25 sz_25 (Nat.le_of_ble_eq_true rfl) ?_
          refine sl_guard_y rfl rfl rfl g3 ?_
          refine sl_callp rfl rfl cal_12 (ileq_ok c b) ?_ ?_
          · repeat constructor
          refine sl_guard_y rfl rfl rfl (rfl) ?_
          refine sl_pk_t rfl rfl rfl g3 rfl ?_
          refine sl_guard_y rfl rfl rfl (rfl) ?_
          refine sl_mv rfl rfl rfl ?_
          refine sl_case_at 110 rfl (fun g4 => ?_) (fun g4 => ?_)
          · have g4 : leqI c b = true := g4
            refine sl_guard_y rfl rfl rfl g4 ?_
            first
              | refine sl_load_rpn rfl rfl rfl ag_25 sz_25 (Nat.le_of_ble_eq_true rfl) ?_
              | refine sl_load_blkn rfl rfl rfl ag_25 sz_25 (by repeat constructor) (Nat.le_of_ble_eq_true rfl) ?_
              | refine sl_load_ref rfl rfl rfl ag_25 sz_25 (Nat.le_of_ble_eq_true rfl) ?_
            refine sl_guard_y rfl rfl rfl g4 ?_
            first
              | refine sl_load_rpn rfl rfl rfl ag_25 sz_25 (Nat.le_of_ble_eq_true rfl) ?_
              | refine sl_load_blkn rfl rfl rfl ag_25 sz_25 (by repeat constructor) (Nat.le_of_ble_eq_true rfl) ?_
              | refine sl_load_ref rfl rfl rfl ag_25 sz_25 (Nat.le_of_ble_eq_true rfl) ?_
            refine sl_guard_y rfl rfl rfl g4 ?_
            refine sl_callp rfl rfl cal_12 (ileq_ok c M) ?_ ?_
            · repeat constructor
            refine sl_guard_y rfl rfl rfl g4 ?_
            refine sl_not rfl rfl rfl ?_
            refine sl_set 114 (.val (.bool false)) (not_tt (by rw [hM]; exact leq_meet_great ha hb hc g3 g4)) ?_
            refine sl_guard_y rfl rfl rfl (rfl) ?_
            refine sl_pk_t rfl rfl rfl g4 rfl ?_
            refine sl_pk_f rfl rfl rfl (rfl) rfl ?_
            refine sl_nil ?_
            refine ⟨_, _, ?_, ?_, rfl, rfl, rfl⟩
            · exact ⟨rfl, by repeat constructor⟩
            · repeat constructor
          refine sl_guard_n rfl rfl rfl g4 ?_
          refine sl_guard_n rfl rfl rfl g4 ?_
          refine sl_guard_n rfl rfl rfl g4 ?_
          refine sl_guard_n rfl rfl rfl g4 ?_
          refine sl_guard_y rfl rfl rfl (rfl) ?_
          refine sl_pk_f rfl rfl rfl g4 rfl ?_
          refine sl_pk_f rfl rfl rfl (rfl) rfl ?_
          refine sl_nil ?_
          refine ⟨_, _, ?_, ?_, rfl, rfl, rfl⟩
          · exact ⟨rfl, by repeat constructor⟩
          · repeat constructor
        refine sl_guard_n rfl rfl rfl g3 ?_
        refine sl_guard_n rfl rfl rfl g3 ?_
        refine sl_guard_n rfl rfl rfl g3 ?_
        refine sl_guard_y rfl rfl rfl (rfl) ?_
        refine sl_pk_f rfl rfl rfl g3 rfl ?_
        refine sl_guard_y rfl rfl rfl (rfl) ?_
        refine sl_mv rfl rfl rfl ?_
        refine sl_guard_n rfl rfl rfl (rfl) ?_
        refine sl_guard_n rfl rfl rfl (rfl) ?_
        refine sl_guard_n rfl rfl rfl (rfl) ?_
        refine sl_guard_n rfl rfl rfl (rfl) ?_
        refine sl_guard_y rfl rfl rfl (rfl) ?_
        refine sl_pk_f rfl rfl rfl (rfl) rfl ?_
        refine sl_pk_f rfl rfl rfl (rfl) rfl ?_
        refine sl_nil ?_
        refine ⟨_, _, ?_, ?_, rfl, rfl, rfl⟩
        · exact ⟨rfl, by repeat constructor⟩
        · repeat constructor
      refine sl_guard_n rfl rfl rfl g2 ?_
      refine sl_guard_n rfl rfl rfl g2 ?_
      refine sl_guard_n rfl rfl rfl g2 ?_
      refine sl_guard_n rfl rfl rfl g2 ?_
      refine sl_guard_y rfl rfl rfl (rfl) ?_
      refine sl_pk_f rfl rfl rfl g2 rfl ?_
      refine sl_pk_f rfl rfl rfl (rfl) rfl ?_
      refine sl_mv rfl rfl rfl ?_
      refine sl_guard_y rfl rfl rfl (rfl) ?_
      first
        | refine sl_load_rpn rfl rfl rfl ag_25 sz_25 (Nat.le_of_ble_eq_true rfl) ?_
        | refine sl_load_blkn rfl rfl rfl ag_25 sz_25 (by repeat constructor) (Nat.le_of_ble_eq_true rfl) ?_
        | refine sl_load_ref rfl rfl rfl ag_25 sz_25 (Nat.le_of_ble_eq_true rfl) ?_
      refine sl_guard_y rfl rfl rfl (rfl) ?_
      first
        | refine sl_load_rpn rfl rfl rfl ag_25 sz_25 (Nat.le_of_ble_eq_true rfl) ?_
        | refine sl_load_blkn rfl rfl rfl ag_25 sz_25 (by repeat constructor) (Nat.le_of_ble_eq_true rfl) ?_
        | refine sl_load_ref rfl rfl rfl ag_25 sz_25 (Nat.le_of_ble_eq_true rfl) ?_
      refine sl_guard_y rfl rfl rfl (rfl) ?_
      refine sl_callp rfl rfl cal_12 (ileq_ok c a) ?_ ?_
      · repeat constructor
      refine sl_guard_y rfl rfl rfl (rfl) ?_
      refine sl_mv rfl rfl rfl ?_
      refine sl_case_at 105 rfl (fun g3 => ?_) (fun g3 => ?_)
      · have g3 : leqI c a = true := g3
        refine sl_guard_y rfl rfl rfl g3 ?_
        first
          | refine sl_load_rpn rfl rfl rfl ag_25 sz_25 (Nat.le_of_ble_eq_true rfl) ?_
          | refine sl_load_blkn rfl rfl rfl ag_25 sz_25 (by repeat constructor) (Nat.le_of_ble_eq_true rfl) ?_
          | refine sl_load_ref rfl rfl rfl ag_25 sz_25 (Nat.le_of_ble_eq_true rfl) ?_
        refine sl_guard_y rfl rfl rfl g3 ?_
        first
          | refine sl_load_rpn rfl rfl rfl ag_25 sz_25 (Nat.le_of_ble_eq_true rfl) ?_
          | refine sl_load_blkn rfl rfl rfl ag_25 sz_25 (by repeat constructor) (Nat.le_of_ble_eq_true rfl) ?_
          | refine sl_load_ref rfl rfl rfl ag_25 sz_25 (Nat.le_of_ble_eq_true rfl) ?_
        refine sl_guard_y rfl rfl rfl g3 ?_
        refine sl_callp rfl rfl cal_12 (ileq_ok c b) ?_ ?_
        · repeat constructor
        refine sl_guard_y rfl rfl rfl (rfl) ?_
        refine sl_pk_t rfl rfl rfl g3 rfl ?_
        refine sl_guard_y rfl rfl rfl (rfl) ?_
        refine sl_mv rfl rfl rfl ?_
        refine sl_case_at 110 rfl (fun g4 => ?_) (fun g4 => ?_)
        · have g4 : leqI c b = true := g4
          refine sl_guard_y rfl rfl rfl g4 ?_
          first
            | refine sl_load_rpn rfl rfl rfl ag_25 sz_25 (Nat.le_of_ble_eq_true rfl) ?_
            | refine sl_load_blkn rfl rfl rfl ag_25 sz_25 (by repeat constructor) (Nat.le_of_ble_eq_true rfl) ?_
            | refine sl_load_ref rfl rfl rfl ag_25 sz_25 (Nat.le_of_ble_eq_true rfl) ?_
          refine sl_guard_y rfl rfl rfl g4 ?_
          first
            | refine sl_load_rpn rfl rfl rfl ag_25 sz_25 (Nat.le_of_ble_eq_true rfl) ?_
            | refine sl_load_blkn rfl rfl rfl ag_25 sz_25 (by repeat constructor) (Nat.le_of_ble_eq_true rfl) ?_
            | refine sl_load_ref rfl rfl rfl ag_25 sz_25 (Nat.le_of_ble_eq_true rfl) ?_
          refine sl_guard_y rfl rfl rfl g4 ?_
          refine sl_callp rfl rfl cal_12 (ileq_ok c M) ?_ ?_
          · repeat constructor
          refine sl_guard_y rfl rfl rfl g4 ?_
          refine sl_not rfl rfl rfl ?_
          refine sl_set 114 (.val (.bool false)) (not_tt (by rw [hM]; exact leq_meet_great ha hb hc g3 g4)) ?_
          refine sl_guard_y rfl rfl rfl (rfl) ?_
          refine sl_pk_t rfl rfl rfl g4 rfl ?_
          refine sl_pk_f rfl rfl rfl (rfl) rfl ?_
          refine sl_nil ?_
          refine ⟨_, _, ?_, ?_, rfl, rfl, rfl⟩
          · exact ⟨rfl, by repeat constructor⟩
          · repeat constructor
        refine sl_guard_n rfl rfl rfl g4 ?_
        refine sl_guard_n rfl rfl rfl g4 ?_
        refine sl_guard_n rfl rfl rfl g4 ?_
        refine sl_guard_n rfl rfl rfl g4 ?_
        refine sl_guard_y rfl rfl rfl (rfl) ?_
        refine sl_pk_f rfl rfl rfl g4 rfl ?_
        refine sl_pk_f rfl rfl rfl (rfl) rfl ?_
        refine sl_nil ?_
        refine ⟨_, _, ?_, ?_, rfl, rfl, rfl⟩
        · exact ⟨rfl, by repeat constructor⟩
        · repeat constructor
      refine sl_guard_n rfl rfl rfl g3 ?_
      refine sl_guard_n rfl rfl rfl g3 ?_
      refine sl_guard_n rfl rfl rfl g3 ?_
      refine sl_guard_y rfl rfl rfl (rfl) ?_
      refine sl_pk_f rfl rfl rfl g3 rfl ?_
      refine sl_guard_y rfl rfl rfl (rfl) ?_
      refine sl_mv rfl rfl rfl ?_
      refine sl_guard_n rfl rfl rfl (rfl) ?_
      refine sl_guard_n rfl rfl rfl (rfl) ?_
      refine sl_guard_n rfl rfl rfl (rfl) ?_
      refine sl_guard_n rfl rfl rfl (rfl) ?_
      refine sl_guard_y rfl rfl rfl (rfl) ?_
      refine sl_pk_f rfl rfl rfl (rfl) rfl ?_
      refine sl_pk_f rfl rfl rfl (rfl) rfl ?_
      refine sl_nil ?_
      refine ⟨_, _, ?_, ?_, rfl, rfl, rfl⟩
      · exact ⟨rfl, by repeat constructor⟩
      · repeat constructor
    refine sl_guard_n rfl rfl rfl g1 ?_
    refine sl_guard_n rfl rfl rfl g1 ?_
    refine sl_guard_n rfl rfl rfl g1 ?_
    refine sl_guard_y rfl rfl rfl (rfl) ?_
    refine sl_pk_f rfl rfl rfl g1 rfl ?_
    refine sl_guard_y rfl rfl rfl (rfl) ?_
    refine sl_mv rfl rfl rfl ?_
    refine sl_guard_n rfl rfl rfl (rfl) ?_
    refine sl_guard_n rfl rfl rfl (rfl) ?_
    refine sl_guard_n rfl rfl rfl (rfl) ?_
    refine sl_guard_n rfl rfl rfl (rfl) ?_
    refine sl_guard_y rfl rfl rfl (rfl) ?_
    refine sl_pk_f rfl rfl rfl (rfl) rfl ?_
    refine sl_pk_f rfl rfl rfl (rfl) rfl ?_
    refine sl_mv rfl rfl rfl ?_
    refine sl_guard_y rfl rfl rfl (rfl) ?_
    first
      | refine sl_load_rpn rfl rfl rfl ag_25 sz_25 (Nat.le_of_ble_eq_true rfl) ?_
      | refine sl_load_blkn rfl rfl rfl ag_25 sz_25 (by repeat constructor) (Nat.le_of_ble_eq_true rfl) ?_
      | refine sl_load_ref rfl rfl rfl ag_25 sz_25 (Nat.le_of_ble_eq_true rfl) ?_
    refine sl_guard_y rfl rfl rfl (rfl) ?_
    first
      | refine sl_load_rpn rfl rfl rfl ag_25 sz_25 (Nat.le_of_ble_eq_true rfl) ?_
      | refine sl_load_blkn rfl rfl rfl ag_25 sz_25 (by repeat constructor) (Nat.le_of_ble_eq_true rfl) ?_
      | refine sl_load_ref rfl rfl rfl ag_25 sz_25 (Nat.le_of_ble_eq_true rfl) ?_
    refine sl_guard_y rfl rfl rfl (rfl) ?_
    refine sl_callp rfl rfl cal_12 (ileq_ok c a) ?_ ?_
    · repeat constructor
    refine sl_guard_y rfl rfl rfl (rfl) ?_
    refine sl_mv rfl rfl rfl ?_
    refine sl_case_at 105 rfl (fun g3 => ?_) (fun g3 => ?_)
    · have g3 : leqI c a = true := g3
      refine sl_guard_y rfl rfl rfl g3 ?_
      first
        | refine sl_load_rpn rfl rfl rfl ag_25 sz_25 (Nat.le_of_ble_eq_true rfl) ?_
        | refine sl_load_blkn rfl rfl rfl ag_25 sz_25 (by repeat constructor) (Nat.le_of_ble_eq_true rfl) ?_
        | refine sl_load_ref rfl rfl rfl ag_25 sz_25 (Nat.le_of_ble_eq_true rfl) ?_
      refine sl_guard_y rfl rfl rfl g3 ?_
      first
        | refine sl_load_rpn rfl rfl rfl ag_25 sz_25 (Nat.le_of_ble_eq_true rfl) ?_
        | refine sl_load_blkn rfl rfl rfl ag_25 sz_25 (by repeat constructor) (Nat.le_of_ble_eq_true rfl) ?_
        | refine sl_load_ref rfl rfl rfl ag_25 sz_25 (Nat.le_of_ble_eq_true rfl) ?_
      refine sl_guard_y rfl rfl rfl g3 ?_
      refine sl_callp rfl rfl cal_12 (ileq_ok c b) ?_ ?_
      · repeat constructor
      refine sl_guard_y rfl rfl rfl (rfl) ?_
      refine sl_pk_t rfl rfl rfl g3 rfl ?_
      refine sl_guard_y rfl rfl rfl (rfl) ?_
      refine sl_mv rfl rfl rfl ?_
      refine sl_case_at 110 rfl (fun g4 => ?_) (fun g4 => ?_)
      · have g4 : leqI c b = true := g4
        refine sl_guard_y rfl rfl rfl g4 ?_
        first
          | refine sl_load_rpn rfl rfl rfl ag_25 sz_25 (Nat.le_of_ble_eq_true rfl) ?_
          | refine sl_load_blkn rfl rfl rfl ag_25 sz_25 (by repeat constructor) (Nat.le_of_ble_eq_true rfl) ?_
          | refine sl_load_ref rfl rfl rfl ag_25 sz_25 (Nat.le_of_ble_eq_true rfl) ?_
        refine sl_guard_y rfl rfl rfl g4 ?_
        first
          | refine sl_load_rpn rfl rfl rfl ag_25 sz_25 (Nat.le_of_ble_eq_true rfl) ?_
          | refine sl_load_blkn rfl rfl rfl ag_25 sz_25 (by repeat constructor) (Nat.le_of_ble_eq_true rfl) ?_
          | refine sl_load_ref rfl rfl rfl ag_25 sz_25 (Nat.le_of_ble_eq_true rfl) ?_
        refine sl_guard_y rfl rfl rfl g4 ?_
        refine sl_callp rfl rfl cal_12 (ileq_ok c M) ?_ ?_
        · repeat constructor
        refine sl_guard_y rfl rfl rfl g4 ?_
        refine sl_not rfl rfl rfl ?_
        refine sl_set 114 (.val (.bool false)) (not_tt (by rw [hM]; exact leq_meet_great ha hb hc g3 g4)) ?_
        refine sl_guard_y rfl rfl rfl (rfl) ?_
        refine sl_pk_t rfl rfl rfl g4 rfl ?_
        refine sl_pk_f rfl rfl rfl (rfl) rfl ?_
        refine sl_nil ?_
        refine ⟨_, _, ?_, ?_, rfl, rfl, rfl⟩
        · exact ⟨rfl, by repeat constructor⟩
        · repeat constructor
      refine sl_guard_n rfl rfl rfl g4 ?_
      refine sl_guard_n rfl rfl rfl g4 ?_
      refine sl_guard_n rfl rfl rfl g4 ?_
      refine sl_guard_n rfl rfl rfl g4 ?_
      refine sl_guard_y rfl rfl rfl (rfl) ?_
      refine sl_pk_f rfl rfl rfl g4 rfl ?_
      refine sl_pk_f rfl rfl rfl (rfl) rfl ?_
      refine sl_nil ?_
      refine ⟨_, _, ?_, ?_, rfl, rfl, rfl⟩
      · exact ⟨rfl, by repeat constructor⟩
      · repeat constructor
    refine sl_guard_n rfl rfl rfl g3 ?_
    refine sl_guard_n rfl rfl rfl g3 ?_
    refine sl_guard_n rfl rfl rfl g3 ?_
    refine sl_guard_y rfl rfl rfl (rfl) ?_
    refine sl_pk_f rfl rfl rfl g3 rfl ?_
    refine sl_guard_y rfl rfl rfl (rfl) ?_
    refine sl_mv rfl rfl rfl ?_
    refine sl_guard_n rfl rfl rfl (rfl) ?_
    refine sl_guard_n rfl rfl rfl (rfl) ?_
    refine sl_guard_n rfl rfl rfl (rfl) ?_
    refine sl_guard_n rfl rfl rfl (rfl) ?_
    refine sl_guard_y rfl rfl rfl (rfl) ?_
    refine sl_pk_f rfl rfl rfl (rfl) rfl ?_
    refine sl_pk_f rfl rfl rfl (rfl) rfl ?_
    refine sl_nil ?_
    refine ⟨_, _, ?_, ?_, rfl, rfl, rfl⟩
    · exact ⟨rfl, by repeat constructor⟩
    · repeat constructor
  rintro sX δX σX ⟨rfl, rfl, rfl⟩
  refine sw_false rfl (rfl) ?_
  refine sw_skip ?_
  refine sw_seq ?_
  refine sa_start [] mixed ?_
  refine sa_take 0 rfl rfl (by kernel_rfl) .nil (pu_load_rpn rfl rfl ag_25 sz_25 (Nat.le_of_ble_eq_true rfl)) ?_
  refine sa_take 1 rfl rfl (by kernel_rfl) .nil (pu_mv rfl rfl) ?_
  refine sa_take 3 rfl rfl (by kernel_rfl) .nil (pu_load_rpn rfl rfl ag_25 sz_25 (Nat.le_of_ble_eq_true rfl)) ?_
  refine sa_take 4 rfl rfl (by kernel_rfl) .nil (pu_mv rfl rfl) ?_
  refine sa_one 2 (by kernel_rfl) rfl ?_
  refine sl_callp rfl rfl cal_14 (ihas_ok M n) ?_ ?_
  · repeat constructor
  refine sl_nil ⟨.nil, ?_⟩
  refine sa_one 5 (by kernel_rfl) rfl ?_
  refine sl_callp rfl rfl cal_14 (ihas_ok a n) ?_ ?_
  · repeat constructor
  refine sl_nil ⟨.nil, ?_⟩
  refine sa_take 6 rfl rfl (by kernel_rfl) .nil (pu_mv rfl rfl) ?_
  refine sa_case_at 123 rfl (fun q1 => ?_) (fun q1 => ?_)
  · have q1 : hasI a n = true := q1
    refine sa_take_y 7 rfl rfl rfl rfl q1 (by kernel_rfl) .nil (pu_load_rpn rfl rfl ag_25 sz_25 (Nat.le_of_ble_eq_true rfl)) ?_
    refine sa_take_y 8 rfl rfl rfl rfl q1 (by kernel_rfl) .nil (pu_mv rfl rfl) ?_
    refine sa_one 9 (by kernel_rfl) rfl ?_
    refine sl_guard_y rfl rfl rfl q1 ?_
    refine sl_callp rfl rfl cal_14 (ihas_ok b n) ?_ ?_
    · repeat constructor
    refine sl_nil ⟨.nil, ?_⟩
    refine sa_take 10 rfl rfl (by kernel_rfl) .nil (pu_pk_t rfl rfl q1 rfl) ?_
    refine sa_take 11 rfl rfl (by kernel_rfl) .nil (pu_bool_eq rfl rfl rfl u_4) ?_
    refine sa_set 128 (.val (.bool true)) (tt_bool (by rw [hM, has_meet ha hb, q1]; rfl)) ?_
    refine sa_take 12 rfl rfl (by kernel_rfl) .nil (pu_mv rfl rfl) ?_
    refine sa_take_y 13 rfl rfl rfl rfl (rfl) (by kernel_rfl) .nil (pu_load_rpn rfl rfl ag_25 sz_25 (Nat.le_of_ble_eq_true rfl)) ?_
    refine sa_take_y 14 rfl rfl rfl rfl (rfl) (by kernel_rfl) .nil (pu_mv rfl rfl) ?_
    refine sa_one 15 (by kernel_rfl) rfl ?_
    refine sl_guard_y rfl rfl rfl (rfl) ?_
    refine sl_callp rfl rfl cal_14 (ihas_ok J n) ?_ ?_
    · repeat constructor
    refine sl_nil ⟨.nil, ?_⟩
    refine sa_take_y 16 rfl rfl rfl rfl (rfl) (by kernel_rfl) .nil (pu_mv rfl rfl) ?_
    refine sa_case_at 133 rfl (fun q2 => ?_) (fun q2 => ?_)
    · refine sa_take_n 17 rfl rfl rfl rfl q2 (by kernel_rfl) .nil ?_
      refine sa_take_n 18 rfl rfl rfl rfl q2 (by kernel_rfl) .nil ?_
      refine sa_take_n 19 rfl rfl rfl rfl q2 (by kernel_rfl) .nil ?_
      refine sa_take_n 20 rfl rfl rfl rfl q2 (by kernel_rfl) .nil ?_
      refine sa_take_n 21 rfl rfl rfl rfl q2 (by kernel_rfl) .nil ?_
      refine sa_take_u 22 rfl rfl rfl rfl (by kernel_rfl) .nil ?_
      refine sa_take_u 23 rfl rfl rfl rfl (by kernel_rfl) .nil ?_
      refine sa_take_u 24 rfl rfl rfl rfl (by kernel_rfl) .nil ?_
      refine sa_take_u 25 rfl rfl rfl rfl (by kernel_rfl) .nil ?_
      refine sa_take_n 26 rfl rfl rfl rfl q2 (by kernel_rfl) .nil ?_
      refine sa_take_y 27 rfl rfl rfl rfl (rfl) (by kernel_rfl) .nil (pu_pk_t rfl rfl q2 rfl) ?_
      refine sa_take 28 rfl rfl (by kernel_rfl) .nil (pu_pk_t rfl rfl (rfl) rfl) ?_
      refine sa_take 29 rfl rfl (by kernel_rfl) .nil (pu_mv rfl rfl) ?_
      refine sa_take_y 30 rfl rfl rfl rfl (rfl) (by kernel_rfl) .nil (pu_load_rpn rfl rfl ag_25 sz_25 (Nat.le_of_ble_eq_true rfl)) ?_
      refine sa_take_y 31 rfl rfl rfl rfl (rfl) (by kernel_rfl) .nil (pu_load_rpn rfl rfl ag_25 sz_25 (Nat.le_of_ble_eq_true rfl)) ?_
      refine sa_take_y 32 rfl rfl rfl rfl (rfl) (by kernel_rfl) .nil (pu_load_rpn rfl rfl ag_25 sz_25 (Nat.le_of_ble_eq_true rfl)) ?_
      refine sa_one 33 (by kernel_rfl) rfl ?_
      refine sl_guard_y rfl rfl rfl (rfl) ?_
      refine sl_callp rfl rfl cal_10 (iwiden_ok a b) ?_ ?_
      · repeat constructor
      refine sl_nil ⟨.nil, ?_⟩
      refine sa_one 34 (by kernel_rfl) rfl ?_
      refine sl_guard_y rfl rfl rfl (rfl) ?_
      refine sl_callp rfl rfl cal_12 (ileq_ok J (widenI a b)) ?_ ?_
      · repeat constructor
      refine sl_nil ⟨.nil, ?_⟩
      refine sa_set 151 (.val (.bool true)) (tt_of (by rw [hJ]; exact leq_widen ha hb)) ?_
      refine sa_take 35 rfl rfl (by kernel_rfl) .nil (pu_pk_t rfl rfl (rfl) rfl) ?_
      refine sa_one 36 (by kernel_rfl) rfl ?_
      refine sl_as rfl rfl rfl ?_
      refine sl_nil ⟨.nil, ?_⟩
      refine sa_done (by kernel_rfl) ?_
      refine sw_ret ⟨rfl, _, _, res_one rfl rfl, ?_, ⟨rfl, rfl⟩⟩
      repeat constructor
    have q2 : hasI J n = false := q2
    have q2' := q2
    rw [hJ] at q2'
    refine sa_take_y 17 rfl rfl rfl rfl q2 (by kernel_rfl) .nil (pu_load_rpn rfl rfl ag_25 sz_25 (Nat.le_of_ble_eq_true rfl)) ?_
    refine sa_take_y 18 rfl rfl rfl rfl q2 (by kernel_rfl) .nil (pu_mv rfl rfl) ?_
    refine sa_one 19 (by kernel_rfl) rfl ?_
    refine sl_guard_y rfl rfl rfl q2 ?_
    refine sl_callp rfl rfl cal_14 (ihas_ok a n) ?_ ?_
    · repeat constructor
    refine sl_nil ⟨.nil, ?_⟩
    refine sa_take_y 20 rfl rfl rfl rfl q2 (by kernel_rfl) .nil (pu_not rfl rfl) ?_
    refine sa_set 137 (.val (.bool true)) (not_ff (has_join ha hb q2').1) ?_
    refine sa_take_y 21 rfl rfl rfl rfl q2 (by kernel_rfl) .nil (pu_mv rfl rfl) ?_
    refine sa_take_y 22 rfl rfl rfl rfl (rfl) (by kernel_rfl) .nil (pu_load_rpn rfl rfl ag_25 sz_25 (Nat.le_of_ble_eq_true rfl)) ?_
    refine sa_take_y 23 rfl rfl rfl rfl (rfl) (by kernel_rfl) .nil (pu_mv rfl rfl) ?_
    refine sa_one 24 (by kernel_rfl) rfl ?_
    refine sl_guard_y rfl rfl rfl (rfl) ?_
    refine sl_callp rfl rfl cal_14 (ihas_ok b n) ?_ ?_
    · repeat constructor
    refine sl_nil ⟨.nil, ?_⟩
    refine sa_take_y 25 rfl rfl rfl rfl (rfl) (by kernel_rfl) .nil (pu_not rfl rfl) ?_
    refine sa_set 142 (.val (.bool true)) (not_ff (has_join ha hb q2').2) ?_
    refine sa_take_y 26 rfl rfl rfl rfl q2 (by kernel_rfl) .nil (pu_pk_t rfl rfl (rfl) rfl) ?_
    refine sa_take_y 27 rfl rfl rfl rfl (rfl) (by kernel_rfl) .nil (pu_pk_f rfl rfl q2 rfl) ?_
    refine sa_take 28 rfl rfl (by kernel_rfl) .nil (pu_pk_t rfl rfl (rfl) rfl) ?_
    refine sa_take 29 rfl rfl (by kernel_rfl) .nil (pu_mv rfl rfl) ?_
    refine sa_take_y 30 rfl rfl rfl rfl (rfl) (by kernel_rfl) .nil (pu_load_rpn rfl rfl ag_25 sz_25 (Nat.le_of_ble_eq_true rfl)) ?_
    refine sa_take_y 31 rfl rfl rfl rfl (rfl) (by kernel_rfl) .nil (pu_load_rpn rfl rfl ag_25 sz_25 (Nat.le_of_ble_eq_true rfl)) ?_
    refine sa_take_y 32 rfl rfl rfl rfl (rfl) (by kernel_rfl) .nil (pu_load_rpn rfl rfl ag_25 sz_25 (Nat.le_of_ble_eq_true rfl)) ?_
    refine sa_one 33 (by kernel_rfl) rfl ?_
    refine sl_guard_y rfl rfl rfl (rfl) ?_
    refine sl_callp rfl rfl cal_10 (iwiden_ok a b) ?_ ?_
    · repeat constructor
    refine sl_nil ⟨.nil, ?_⟩
    refine sa_one 34 (by kernel_rfl) rfl ?_
    refine sl_guard_y rfl rfl rfl (rfl) ?_
    refine sl_callp rfl rfl cal_12 (ileq_ok J (widenI a b)) ?_ ?_
    · repeat constructor
    refine sl_nil ⟨.nil, ?_⟩
    refine sa_set 151 (.val (.bool true)) (tt_of (by rw [hJ]; exact leq_widen ha hb)) ?_
    refine sa_take 35 rfl rfl (by kernel_rfl) .nil (pu_pk_t rfl rfl (rfl) rfl) ?_
    refine sa_one 36 (by kernel_rfl) rfl ?_
    refine sl_as rfl rfl rfl ?_
    refine sl_nil ⟨.nil, ?_⟩
    refine sa_done (by kernel_rfl) ?_
    refine sw_ret ⟨rfl, _, _, res_one rfl rfl, ?_, ⟨rfl, rfl⟩⟩
    repeat constructor
  have q1 : hasI a n = false := q1
  refine sa_take_n 7 rfl rfl rfl rfl q1 (by kernel_rfl) .nil ?_
  refine sa_take_n 8 rfl rfl rfl rfl q1 (by kernel_rfl) .nil ?_
  refine sa_take_n 9 rfl rfl rfl rfl q1 (by kernel_rfl) .nil ?_
  refine sa_take 10 rfl rfl (by kernel_rfl) .nil (pu_pk_f rfl rfl q1 rfl) ?_
  refine sa_take 11 rfl rfl (by kernel_rfl) .nil (pu_bool_eq rfl rfl rfl u_4) ?_
  refine sa_set 128 (.val (.bool true)) (tt_bool (by rw [hM, has_meet ha hb, q1]; rfl)) ?_
  refine sa_take 12 rfl rfl (by kernel_rfl) .nil (pu_mv rfl rfl) ?_
  refine sa_take_y 13 rfl rfl rfl rfl (rfl) (by kernel_rfl) .nil (pu_load_rpn rfl rfl ag_25 sz_25 (Nat.le_of_ble_eq_true rfl)) ?_
  refine sa_take_y 14 rfl rfl rfl rfl (rfl) (by kernel_rfl) .nil (pu_mv rfl rfl) ?_
  refine sa_one 15 (by kernel_rfl) rfl ?_
  refine sl_guard_y rfl rfl rfl (rfl) ?_
  refine sl_callp rfl rfl cal_14 (ihas_ok J n) ?_ ?_
  · repeat constructor
  refine sl_nil ⟨.nil, ?_⟩
  refine sa_take_y 16 rfl rfl rfl rfl (rfl) (by kernel_rfl) .nil (pu_mv rfl rfl) ?_
  refine sa_case_at 133 rfl (fun q2 => ?_) (fun q2 => ?_)
  · refine sa_take_n 17 rfl rfl rfl rfl q2 (by kernel_rfl) .nil ?_
    refine sa_take_n 18 rfl rfl rfl rfl q2 (by kernel_rfl) .nil ?_
    refine sa_take_n 19 rfl rfl rfl rfl q2 (by kernel_rfl) .nil ?_
    refine sa_take_n 20 rfl rfl rfl rfl q2 (by kernel_rfl) .nil ?_
    refine sa_take_n 21 rfl rfl rfl rfl q2 (by kernel_rfl) .nil ?_
    refine sa_take_u 22 rfl rfl rfl rfl (by kernel_rfl) .nil ?_
    refine sa_take_u 23 rfl rfl rfl rfl (by kernel_rfl) .nil ?_
    refine sa_take_u 24 rfl rfl rfl rfl (by kernel_rfl) .nil ?_
    refine sa_take_u 25 rfl rfl rfl rfl (by kernel_rfl) .nil ?_
    refine sa_take_n 26 rfl rfl rfl rfl q2 (by kernel_rfl) .nil ?_
    refine sa_take_y 27 rfl rfl rfl rfl (rfl) (by kernel_rfl) .nil (pu_pk_t rfl rfl q2 rfl) ?_
    refine sa_take 28 rfl rfl (by kernel_rfl) .nil (pu_pk_t rfl rfl (rfl) rfl) ?_
    refine sa_take 29 rfl rfl (by kernel_rfl) .nil (pu_mv rfl rfl) ?_
    refine sa_take_y 30 rfl rfl rfl rfl (rfl) (by kernel_rfl) .nil (pu_load_rpn rfl rfl ag_25 sz_25 (Nat.le_of_ble_eq_true rfl)) ?_
    refine sa_take_y 31 rfl rfl rfl rfl (rfl) (by kernel_rfl) .nil (pu_load_rpn rfl rfl ag_25 sz_25 (Nat.le_of_ble_eq_true rfl)) ?_
    refine sa_take_y 32 rfl rfl rfl rfl (rfl) (by kernel_rfl) .nil (pu_load_rpn rfl rfl ag_25 sz_25 (Nat.le_of_ble_eq_true rfl)) ?_
    refine sa_one 33 (by kernel_rfl) rfl ?_
    refine sl_guard_y rfl rfl rfl (rfl) ?_
    refine sl_callp rfl rfl cal_10 (iwiden_ok a b) ?_ ?_
    · repeat constructor
    refine sl_nil ⟨.nil, ?_⟩
    refine sa_one 34 (by kernel_rfl) rfl ?_
    refine sl_guard_y rfl rfl rfl (rfl) ?_
    refine sl_callp rfl rfl cal_12 (ileq_ok J (widenI a b)) ?_ ?_
    · repeat constructor
    refine sl_nil ⟨.nil, ?_⟩
    refine sa_set 151 (.val (.bool true)) (tt_of (by rw [hJ]; exact leq_widen ha hb)) ?_
    refine sa_take 35 rfl rfl (by kernel_rfl) .nil (pu_pk_t rfl rfl (rfl) rfl) ?_
    refine sa_one 36 (by kernel_rfl) rfl ?_
    refine sl_as rfl rfl rfl ?_
    refine sl_nil ⟨.nil, ?_⟩
    refine sa_done (by kernel_rfl) ?_
    refine sw_ret ⟨rfl, _, _, res_one rfl rfl, ?_, ⟨rfl, rfl⟩⟩
    repeat constructor
  have q2 : hasI J n = false := q2
  have q2' := q2
  rw [hJ] at q2'
  refine sa_take_y 17 rfl rfl rfl rfl q2 (by kernel_rfl) .nil (pu_load_rpn rfl rfl ag_25 sz_25 (Nat.le_of_ble_eq_true rfl)) ?_
  refine sa_take_y 18 rfl rfl rfl rfl q2 (by kernel_rfl) .nil (pu_mv rfl rfl) ?_
  refine sa_one 19 (by kernel_rfl) rfl ?_
  refine sl_guard_y rfl rfl rfl q2 ?_
  refine sl_callp rfl rfl cal_14 (ihas_ok a n) ?_ ?_
  · repeat constructor
  refine sl_nil ⟨.nil, ?_⟩
  refine sa_take_y 20 rfl rfl rfl rfl q2 (by kernel_rfl) .nil (pu_not rfl rfl) ?_
  refine sa_set 137 (.val (.bool true)) (not_ff (has_join ha hb q2').1) ?_
  refine sa_take_y 21 rfl rfl rfl rfl q2 (by kernel_rfl) .nil (pu_mv rfl rfl) ?_
  refine sa_take_y 22 rfl rfl rfl rfl (rfl) (by kernel_rfl) .nil (pu_load_rpn rfl rfl ag_25 sz_25 (Nat.le_of_ble_eq_true rfl)) ?_
  refine sa_take_y 23 rfl rfl rfl rfl (rfl) (by kernel_rfl) .nil (pu_mv rfl rfl) ?_
  refine sa_one 24 (by kernel_rfl) rfl ?_
  refine sl_guard_y rfl rfl rfl (rfl) ?_
  refine sl_callp rfl rfl cal_14 (ihas_ok b n) ?_ ?_
  · repeat constructor
  refine sl_nil ⟨.nil, ?_⟩
  refine sa_take_y 25 rfl rfl rfl rfl (rfl) (by kernel_rfl) .nil (pu_not rfl rfl) ?_
  refine sa_set 142 (.val (.bool true)) (not_ff (has_join ha hb q2').2) ?_
  refine sa_take_y 26 rfl rfl rfl rfl q2 (by kernel_rfl) .nil (pu_pk_t rfl rfl (rfl) rfl) ?_
  refine sa_take_y 27 rfl rfl rfl rfl (rfl) (by kernel_rfl) .nil (pu_pk_f rfl rfl q2 rfl) ?_
  refine sa_take 28 rfl rfl (by kernel_rfl) .nil (pu_pk_t rfl rfl (rfl) rfl) ?_
  refine sa_take 29 rfl rfl (by kernel_rfl) .nil (pu_mv rfl rfl) ?_
  refine sa_take_y 30 rfl rfl rfl rfl (rfl) (by kernel_rfl) .nil (pu_load_rpn rfl rfl ag_25 sz_25 (Nat.le_of_ble_eq_true rfl)) ?_
  refine sa_take_y 31 rfl rfl rfl rfl (rfl) (by kernel_rfl) .nil (pu_load_rpn rfl rfl ag_25 sz_25 (Nat.le_of_ble_eq_true rfl)) ?_
  refine sa_take_y 32 rfl rfl rfl rfl (rfl) (by kernel_rfl) .nil (pu_load_rpn rfl rfl ag_25 sz_25 (Nat.le_of_ble_eq_true rfl)) ?_
  refine sa_one 33 (by kernel_rfl) rfl ?_
  refine sl_guard_y rfl rfl rfl (rfl) ?_
  refine sl_callp rfl rfl cal_10 (iwiden_ok a b) ?_ ?_
  · repeat constructor
  refine sl_nil ⟨.nil, ?_⟩
  refine sa_one 34 (by kernel_rfl) rfl ?_
  refine sl_guard_y rfl rfl rfl (rfl) ?_
  refine sl_callp rfl rfl cal_12 (ileq_ok J (widenI a b)) ?_ ?_
  · repeat constructor
  refine sl_nil ⟨.nil, ?_⟩
  refine sa_set 151 (.val (.bool true)) (tt_of (by rw [hJ]; exact leq_widen ha hb)) ?_
  refine sa_take 35 rfl rfl (by kernel_rfl) .nil (pu_pk_t rfl rfl (rfl) rfl) ?_
  refine sa_one 36 (by kernel_rfl) rfl ?_
  refine sl_as rfl rfl rfl ?_
  refine sl_nil ⟨.nil, ?_⟩
  refine sa_done (by kernel_rfl) ?_
  refine sw_ret ⟨rfl, _, _, res_one rfl rfl, ?_, ⟨rfl, rfl⟩⟩
  repeat constructor

end Go.Proofs.YtipacoopapjdpaaDoor
