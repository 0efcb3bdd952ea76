/- Merged: the program logic, plain laws and walks (each part's first row says what it is); no conditions of its own. -/
import Derived.Test.YtlolmemiedhhhaaDoorL2
import Derived.Test.YtlolmemiedhhhaaDoorProg
import Derived.Test.YtlolmemiedhhhaaDoorL3

/- What the type table says: printed by a program of this session. -/
namespace Go.Proofs.YtlolmemiedhhhaaDoor
open Go Go.RowKit SL

theorem ag_2 : aggOf Tryd.prog 2 = some false := by kernel_rfl
theorem ag_22 : aggOf Tryd.prog 22 = some false := by kernel_rfl
theorem ag_28 : aggOf Tryd.prog 28 = some false := by kernel_rfl
theorem ag_29 : aggOf Tryd.prog 29 = some false := by kernel_rfl
theorem ag_3 : aggOf Tryd.prog 3 = some false := by kernel_rfl
theorem ag_30 : aggOf Tryd.prog 30 = some false := by kernel_rfl
theorem ag_32 : aggOf Tryd.prog 32 = some true := by kernel_rfl
theorem ag_57 : aggOf Tryd.prog 57 = some false := by kernel_rfl
theorem ag_58 : aggOf Tryd.prog 58 = some false := by kernel_rfl
theorem ag_9 : aggOf Tryd.prog 9 = some false := by kernel_rfl
theorem bi_113 : buildInfo Tryd.prog 113 = some [(0, 2), (2, 1), (3, 1)] := by kernel_rfl
theorem bi_115 : buildInfo Tryd.prog 115 = some [(0, 4)] := by kernel_rfl
theorem bi_32 : buildInfo Tryd.prog 32 = some [(0, 1), (1, 1), (2, 1), (3, 1)] := by kernel_rfl
theorem bi_53 : buildInfo Tryd.prog 53 = some [(0, 1), (1, 1), (2, 1), (3, 1), (4, 1)] := by kernel_rfl
theorem bi_55 : buildInfo Tryd.prog 55 = some [(0, 1), (1, 1), (2, 1), (3, 1), (4, 1), (5, 1)] := by kernel_rfl
theorem bi_60 : buildInfo Tryd.prog 60 = some [(0, 1), (1, 1)] := by kernel_rfl
theorem cal_10 : callable Tryd.prog 10 = true := by kernel_rfl
theorem cal_104 : callable Tryd.prog 104 = true := by kernel_rfl
theorem cal_11 : callable Tryd.prog 11 = true := by kernel_rfl
theorem cal_12 : callable Tryd.prog 12 = true := by kernel_rfl
theorem cal_16 : callable Tryd.prog 16 = true := by kernel_rfl
theorem cal_19 : callable Tryd.prog 19 = true := by kernel_rfl
theorem cal_27 : callable Tryd.prog 27 = true := by kernel_rfl
theorem cal_28 : callable Tryd.prog 28 = true := by kernel_rfl
theorem cal_29 : callable Tryd.prog 29 = true := by kernel_rfl
theorem cal_30 : callable Tryd.prog 30 = true := by kernel_rfl
theorem cal_31 : callable Tryd.prog 31 = true := by kernel_rfl
theorem cal_32 : callable Tryd.prog 32 = true := by kernel_rfl
theorem cal_33 : callable Tryd.prog 33 = true := by kernel_rfl
theorem cal_34 : callable Tryd.prog 34 = true := by kernel_rfl
theorem cal_35 : callable Tryd.prog 35 = true := by kernel_rfl
theorem cal_49 : callable Tryd.prog 49 = true := by kernel_rfl
theorem cal_59 : callable Tryd.prog 59 = true := by kernel_rfl
theorem cal_61 : callable Tryd.prog 61 = true := by kernel_rfl
theorem cal_62 : callable Tryd.prog 62 = true := by kernel_rfl
theorem cal_75 : callable Tryd.prog 75 = true := by kernel_rfl
theorem cal_76 : callable Tryd.prog 76 = true := by kernel_rfl
theorem cal_8 : callable Tryd.prog 8 = true := by kernel_rfl
theorem cal_86 : callable Tryd.prog 86 = true := by kernel_rfl
theorem cal_88 : callable Tryd.prog 88 = true := by kernel_rfl
theorem cal_9 : callable Tryd.prog 9 = true := by kernel_rfl
theorem el_5 : elOf Tryd.prog 5 = some (1, 1) := by kernel_rfl
theorem fo_111_1 : fieldOff Tryd.prog 111 1 = some 1 := by kernel_rfl
theorem fo_113_0 : fieldOff Tryd.prog 113 0 = some 0 := by kernel_rfl
theorem fo_113_1 : fieldOff Tryd.prog 113 1 = some 2 := by kernel_rfl
theorem fo_115_0 : fieldOff Tryd.prog 115 0 = some 0 := by kernel_rfl
theorem fo_32_0 : fieldOff Tryd.prog 32 0 = some 0 := by kernel_rfl
theorem fo_32_1 : fieldOff Tryd.prog 32 1 = some 1 := by kernel_rfl
theorem fo_32_2 : fieldOff Tryd.prog 32 2 = some 2 := by kernel_rfl
theorem fo_32_3 : fieldOff Tryd.prog 32 3 = some 3 := by kernel_rfl
theorem fo_53_0 : fieldOff Tryd.prog 53 0 = some 0 := by kernel_rfl
theorem fo_53_1 : fieldOff Tryd.prog 53 1 = some 1 := by kernel_rfl
theorem fo_53_2 : fieldOff Tryd.prog 53 2 = some 2 := by kernel_rfl
theorem fo_53_3 : fieldOff Tryd.prog 53 3 = some 3 := by kernel_rfl
theorem fo_53_4 : fieldOff Tryd.prog 53 4 = some 4 := by kernel_rfl
theorem fo_55_0 : fieldOff Tryd.prog 55 0 = some 0 := by kernel_rfl
theorem fo_55_5 : fieldOff Tryd.prog 55 5 = some 5 := by kernel_rfl
theorem fo_60_0 : fieldOff Tryd.prog 60 0 = some 0 := by kernel_rfl
theorem fo_60_1 : fieldOff Tryd.prog 60 1 = some 1 := by kernel_rfl
theorem mixed : Tryd.prog.follows .mixedOrders = true := by kernel_rfl
theorem sz_28 : szOf Tryd.prog 28 = some 1 := by kernel_rfl
theorem sz_3 : szOf Tryd.prog 3 = some 1 := by kernel_rfl
theorem sz_32 : szOf Tryd.prog 32 = some 4 := by kernel_rfl
theorem sz_9 : szOf Tryd.prog 9 = some 1 := by kernel_rfl
theorem u_22 : Tryd.prog.underlying 22 = some (.pointer 53) := by kernel_rfl
theorem u_28 : Tryd.prog.underlying 28 = some (.slice 5) := by kernel_rfl
theorem u_29 : Tryd.prog.underlying 29 = some (.slice 124) := by kernel_rfl
theorem u_30 : Tryd.prog.underlying 30 = some (.slice 47) := by kernel_rfl
theorem u_40 : Tryd.prog.underlying 40 = some (.pointer 55) := by kernel_rfl
theorem u_57 : Tryd.prog.underlying 57 = some (.slice 9) := by kernel_rfl
theorem u_58 : Tryd.prog.underlying 58 = some (.slice 117) := by kernel_rfl
theorem u_9 : Tryd.prog.underlying 9 = some .string := by kernel_rfl
theorem zd_113 : zeroDs Tryd.prog 113 = some [.val .nil, .fix [], .val (.int .i64 0), .val .nilFunc] := by kernel_rfl
theorem zd_115 : zeroDs Tryd.prog 115 = some [.val .nil, .fix [], .val (.int .i64 0), .val .nilFunc] := by kernel_rfl
theorem zd_3 : zeroDs Tryd.prog 3 = some [.val (.int .i64 0)] := by kernel_rfl
theorem zd_32 : zeroDs Tryd.prog 32 = some [.val (.str []), .fix [], .fix [], .fix []] := by kernel_rfl
theorem zd_53 : zeroDs Tryd.prog 53 = some [.val (.int .i64 0), .val (.int .i64 0), .val (.str []), .val .nil, .val .nil] := by kernel_rfl
theorem zd_55 : zeroDs Tryd.prog 55 = some [.val (.int .i64 0), .val .nil, .val .nil, .val .nil, .val .nil, .val (.str [])] := by kernel_rfl
theorem zd_60 : zeroDs Tryd.prog 60 = some [.fix [], .fix []] := by kernel_rfl
theorem zs_9 : (zeroOf Tryd.prog 9).isSome = true := by kernel_rfl
end Go.Proofs.YtlolmemiedhhhaaDoor

/- Walks: printed by a program of this session out of its script PrA. -/
namespace Go.Proofs.YtlolmemiedhhhaaDoor
set_option linter.unusedVariables false
set_option linter.unusedSimpArgs false
set_option maxRecDepth 4000
set_option maxHeartbeats 4000000
open Go Go.RowKit SL


theorem builderInPrinter : BuilderIn 115 4 := ⟨by kernel_rfl, by decide⟩

/-- A builder takes a text. -/
theorem bwrite_ok (q T n : Nat) (hT : BuilderIn T n) (a : D) (ha : a = .val .nil ∨ a = .ptr q 0) (v : Value) (bs s : Txt) (rest : List D) (σ : List Chunk) (hl : bs.length + s.length ≤ 100000000) :
    FSpec Tryd.prog 86 [.ptr q 0, .val (.str s)] (.ty q T n :: .blk q (a :: .own v (bs.map byteV) :: rest) :: .row v 1 5 :: σ)
      (fun d σ' => ∃ v', d = .tup [.val (.int .i64 s.length), .val .nilIface] ∧ σ' = .ty q T n :: .blk q (.ptr q 0 :: .own v' ((bs ++ s).map byteV) :: rest) :: .row v' 1 5 :: σ) := by
  refine spec_of_sw Tryd.func86 rfl ?_
  refine sw_seq ?_
  refine sl_region ?_
  refine sl_as rfl rfl rfl ?_
  refine sl_as rfl rfl rfl ?_
  refine sl_nil ?_
  refine sw_seq ?_
  refine sl_region ?_
  refine sl_mv rfl rfl rfl ?_
  refine sl_callf rfl rfl cal_104 (copyCheck_ok q T n hT a ha (.own v (bs.map byteV) :: rest) (.row v 1 5 :: σ)) ?_ ?_ ?_ (fun _ _ h => h.elim)
  · repeat constructor
  · repeat constructor
  rintro _ _ ⟨rfl, rfl⟩
  refine sl_nil ?_
  refine sw_seq ?_
  refine sl_region ?_
  refine sl_mv rfl rfl rfl ?_
  refine sl_mv rfl rfl rfl ?_
  refine sl_nc rfl rfl rfl rfl ?_
  first
    | refine sl_fieldAddr_ptr rfl rfl rfl fo_111_1 ?_
    | refine sl_fieldAddr_rp rfl rfl rfl fo_111_1 ?_
    | refine sl_fieldAddr_ref rfl rfl rfl fo_111_1 ?_
  first
    | refine sl_load_rp1 rfl rfl rfl ag_28 rfl ?_
    | refine sl_load_blk1 rfl rfl rfl ag_28 (by repeat constructor) rfl ?_
  refine sl_mv rfl rfl rfl ?_
  refine sl_app_row rfl rfl rfl rfl u_28 u_9 el_5 (by repeat constructor) (by simp only [List.length_map]; omega) ((by rw [List.map_append] : _ = (bs ++ s).map byteV)) (by repeat constructor) (fun v14 => ?_)
  refine sl_nc rfl rfl rfl rfl ?_
  first
    | refine sl_fieldAddr_ptr rfl rfl rfl fo_111_1 ?_
    | refine sl_fieldAddr_rp rfl rfl rfl fo_111_1 ?_
    | refine sl_fieldAddr_ref rfl rfl rfl fo_111_1 ?_
  refine sl_stp rfl rfl rfl rfl sz_28 rfl rfl rfl (by repeat constructor) (Nat.le_of_ble_eq_true rfl) ?_
  refine sl_nil ?_
  refine sw_seq ?_
  refine sl_region ?_
  refine sl_mv rfl rfl rfl ?_
  refine sl_len_str rfl rfl rfl u_9 ?_
  refine sl_as rfl rfl rfl ?_
  refine sl_as rfl rfl rfl ?_
  refine sl_nil ?_
  refine sw_ret ⟨rfl, _, _, res_many (ts := [4, 5]) rfl (by decide) rfl, ?_, ⟨v14, rfl, rfl⟩⟩
  repeat constructor

theorem level_ok (k n : Int) (s : Txt) (a b : Ex) (σ : List Chunk) : FSpec Tryd.prog 28 [.val (exV (.node k n s a b))] σ (fun d σ' => d = .val (.int .i64 (lvl k)) ∧ σ' = σ) := by
  refine spec_of_sw Tryd.func28 rfl ?_
  refine sw_set 0 (.val (.ref (.agg [.int .i64 k, .int .i64 n, .str s, exV a, exV b]))) (rfl) ?_
  refine sw_seq ?_
  refine sl_region ?_
  refine sl_as rfl rfl rfl ?_
  refine sl_nil ?_
  refine sw_seq ?_
  refine sw_seq ?_
  refine sl_region ?_
  refine sl_mv rfl rfl rfl ?_
  refine sl_nc rfl rfl rfl rfl ?_
  first
    | refine sl_fieldAddr_ptr rfl rfl rfl fo_53_0 ?_
    | refine sl_fieldAddr_rp rfl rfl rfl fo_53_0 ?_
    | refine sl_fieldAddr_ref rfl rfl rfl fo_53_0 ?_
  first
    | refine sl_load_rp1 rfl rfl rfl ag_3 rfl ?_
    | refine sl_load_blk1 rfl rfl rfl ag_3 (by repeat constructor) rfl ?_
  refine sl_nil ?_
  refine sw_block ?_
  refine sw_seq ?_
  refine sw_seq ?_
  refine sl_region ?_
  refine sl_bin rfl rfl rfl rfl rfl ?_
  refine sl_as rfl rfl rfl ?_
  refine sl_nil ?_
  refine sw_cond rfl (fun h1 => ?_) (fun h1 => ?_)
  · refine sw_skip ?_
    refine sw_true rfl (h1) ?_
    refine sw_seq ?_
    refine sl_region ?_
    refine sl_as rfl rfl rfl ?_
    refine sl_nil ?_
    refine sw_ret ⟨rfl, _, _, res_one rfl rfl, ?_, ⟨congrArg (fun z => D.val (.int .i64 z)) (lv1 (.inl (eqi_tt h1))), rfl⟩⟩
    repeat constructor
  refine sl_region ?_
  refine sl_bin rfl rfl rfl rfl rfl ?_
  refine sl_as rfl rfl rfl ?_
  refine sl_nil ?_
  refine sw_cond rfl (fun h2 => ?_) (fun h2 => ?_)
  · refine sw_seq ?_
    refine sl_region ?_
    refine sl_as rfl rfl rfl ?_
    refine sl_nil ?_
    refine sw_ret ⟨rfl, _, _, res_one rfl rfl, ?_, ⟨congrArg (fun z => D.val (.int .i64 z)) (lv1 (.inr (eqi_tt h2))), rfl⟩⟩
    repeat constructor
  refine sw_seq ?_
  refine sw_seq ?_
  refine sl_region ?_
  refine sl_bin rfl rfl rfl rfl rfl ?_
  refine sl_as rfl rfl rfl ?_
  refine sl_nil ?_
  refine sw_cond rfl (fun h3 => ?_) (fun h3 => ?_)
  · refine sw_skip ?_
    refine sw_true rfl (h3) ?_
    refine sw_seq ?_
    refine sl_region ?_
    refine sl_as rfl rfl rfl ?_
    refine sl_nil ?_
    refine sw_ret ⟨rfl, _, _, res_one rfl rfl, ?_, ⟨congrArg (fun z => D.val (.int .i64 z)) (lv2 (.inl (eqi_tt h3))), rfl⟩⟩
    repeat constructor
  refine sw_seq ?_
  refine sl_region ?_
  refine sl_bin rfl rfl rfl rfl rfl ?_
  refine sl_as rfl rfl rfl ?_
  refine sl_nil ?_
  refine sw_cond rfl (fun h4 => ?_) (fun h4 => ?_)
  · refine sw_skip ?_
    refine sw_true rfl (h4) ?_
    refine sw_seq ?_
    refine sl_region ?_
    refine sl_as rfl rfl rfl ?_
    refine sl_nil ?_
    refine sw_ret ⟨rfl, _, _, res_one rfl rfl, ?_, ⟨congrArg (fun z => D.val (.int .i64 z)) (lv2 (.inr (.inl (eqi_tt h4)))), rfl⟩⟩
    repeat constructor
  refine sl_region ?_
  refine sl_bin rfl rfl rfl rfl rfl ?_
  refine sl_as rfl rfl rfl ?_
  refine sl_nil ?_
  refine sw_cond rfl (fun h5 => ?_) (fun h5 => ?_)
  · refine sw_seq ?_
    refine sl_region ?_
    refine sl_as rfl rfl rfl ?_
    refine sl_nil ?_
    refine sw_ret ⟨rfl, _, _, res_one rfl rfl, ?_, ⟨congrArg (fun z => D.val (.int .i64 z)) (lv2 (.inr (.inr (eqi_tt h5)))), rfl⟩⟩
    repeat constructor
  refine sw_seq ?_
  refine sl_region ?_
  refine sl_bin rfl rfl rfl rfl rfl ?_
  refine sl_as rfl rfl rfl ?_
  refine sl_nil ?_
  refine sw_cond rfl (fun h6 => ?_) (fun h6 => ?_)
  · refine sw_seq ?_
    refine sl_region ?_
    refine sl_as rfl rfl rfl ?_
    refine sl_nil ?_
    refine sw_ret ⟨rfl, _, _, res_one rfl rfl, ?_, ⟨congrArg (fun z => D.val (.int .i64 z)) (lv3 (eqi_tt h6)), rfl⟩⟩
    repeat constructor
  refine sw_skip ?_
  refine sw_seq ?_
  refine sl_region ?_
  refine sl_as rfl rfl rfl ?_
  refine sl_nil ?_
  refine sw_ret ⟨rfl, _, _, res_one rfl rfl, ?_, ⟨congrArg (fun z => D.val (.int .i64 z)) (lv4 ⟨eqi_ff h1, eqi_ff h2, eqi_ff h3, eqi_ff h4, eqi_ff h5, eqi_ff h6⟩), rfl⟩⟩
  repeat constructor

theorem sign_ok (k : Int) (σ : List Chunk) : FSpec Tryd.prog 30 [.val (.int .i64 k)] σ (fun d σ' => d = .val (.str (signT k)) ∧ σ' = σ) := by
  refine spec_of_sw Tryd.func30 rfl ?_
  refine sw_seq ?_
  refine sl_region ?_
  refine sl_as rfl rfl rfl ?_
  refine sl_nil ?_
  refine sw_seq ?_
  refine sw_seq ?_
  refine sl_region ?_
  refine sl_mv rfl rfl rfl ?_
  refine sl_nil ?_
  refine sw_block ?_
  refine sw_seq ?_
  refine sl_region ?_
  refine sl_bin rfl rfl rfl rfl rfl ?_
  refine sl_as rfl rfl rfl ?_
  refine sl_nil ?_
  refine sw_cond rfl (fun h1 => ?_) (fun h1 => ?_)
  · refine sw_seq ?_
    refine sl_region ?_
    refine sl_as rfl rfl rfl ?_
    refine sl_nil ?_
    refine sw_ret ⟨rfl, _, _, res_one rfl rfl, ?_, ⟨congrArg (fun z => D.val (.str z)) (by rw [eqi_tt h1]; rfl), rfl⟩⟩
    repeat constructor
  refine sw_seq ?_
  refine sl_region ?_
  refine sl_bin rfl rfl rfl rfl rfl ?_
  refine sl_as rfl rfl rfl ?_
  refine sl_nil ?_
  refine sw_cond rfl (fun h2 => ?_) (fun h2 => ?_)
  · refine sw_seq ?_
    refine sl_region ?_
    refine sl_as rfl rfl rfl ?_
    refine sl_nil ?_
    refine sw_ret ⟨rfl, _, _, res_one rfl rfl, ?_, ⟨congrArg (fun z => D.val (.str z)) (by rw [eqi_tt h2]; rfl), rfl⟩⟩
    repeat constructor
  refine sw_seq ?_
  refine sl_region ?_
  refine sl_bin rfl rfl rfl rfl rfl ?_
  refine sl_as rfl rfl rfl ?_
  refine sl_nil ?_
  refine sw_cond rfl (fun h3 => ?_) (fun h3 => ?_)
  · refine sw_seq ?_
    refine sl_region ?_
    refine sl_as rfl rfl rfl ?_
    refine sl_nil ?_
    refine sw_ret ⟨rfl, _, _, res_one rfl rfl, ?_, ⟨congrArg (fun z => D.val (.str z)) (by rw [eqi_tt h3]; rfl), rfl⟩⟩
    repeat constructor
  refine sw_seq ?_
  refine sl_region ?_
  refine sl_bin rfl rfl rfl rfl rfl ?_
  refine sl_as rfl rfl rfl ?_
  refine sl_nil ?_
  refine sw_cond rfl (fun h4 => ?_) (fun h4 => ?_)
  · refine sw_seq ?_
    refine sl_region ?_
    refine sl_as rfl rfl rfl ?_
    refine sl_nil ?_
    refine sw_ret ⟨rfl, _, _, res_one rfl rfl, ?_, ⟨congrArg (fun z => D.val (.str z)) (by rw [eqi_tt h4]; rfl), rfl⟩⟩
    repeat constructor
  refine sw_skip ?_
  refine sw_seq ?_
  refine sl_region ?_
  refine sl_as rfl rfl rfl ?_
  refine sl_nil ?_
  refine sw_ret ⟨rfl, _, _, res_one rfl rfl, ?_, ⟨congrArg (fun z => D.val (.str z)) (by unfold signT; rw [if_neg (eqi_ff h1), if_neg (eqi_ff h2), if_neg (eqi_ff h3), if_neg (eqi_ff h4)]), rfl⟩⟩
  repeat constructor

theorem formatInt_ok (n : Int) (h : isI64 n) (σ : List Chunk) : FSpec Tryd.prog 31 [.val (.int .i64 n), .val (.int .i64 10)] σ (fun d σ' => d = .val (.str (itoaT n)) ∧ σ' = σ) :=
  fmtInt_ok (f := 31) rfl n h σ

theorem part_nil (m : Int) (σ : List Chunk) : FSpec Tryd.prog 29 [.val .nil, .val (.int .i64 m)] σ (fun d σ' => d = .val (.str []) ∧ σ' = σ) := by
  refine spec_of_sw Tryd.func29 rfl ?_
  refine sw_seq ?_
  refine sl_region ?_
  refine sl_as rfl rfl rfl ?_
  refine sl_nil ?_
  refine sw_seq ?_
  refine sw_seq ?_
  refine sl_region ?_
  refine sl_mv rfl rfl rfl ?_
  refine sl_eq_nil rfl rfl rfl u_22 ?_
  refine sl_nil ?_
  refine sw_true rfl (rfl) ?_
  refine sw_seq ?_
  refine sl_region ?_
  refine sl_as rfl rfl rfl ?_
  refine sl_nil ?_
  refine sw_ret ⟨rfl, _, _, res_one rfl rfl, ?_, ⟨rfl, rfl⟩⟩
  repeat constructor

theorem part_node (k n : Int) (s : Txt) (a b : Ex) (m : Int) (σ : List Chunk) (t : Txt) (hl : t.length ≤ 100000) (h : ∀ σ, FSpec Tryd.prog 11 [.val (exV (.node k n s a b))] σ (fun d σ' => d = .val (.str t) ∧ σ' = σ)) :
    FSpec Tryd.prog 29 [.val (.ref (.agg [.int .i64 k, .int .i64 n, .str s, exV a, exV b])), .val (.int .i64 m)] σ (fun d σ' => d = .val (.str (wrapT (decide (lvl k < m)) t)) ∧ σ' = σ) := by
  refine spec_of_sw Tryd.func29 rfl ?_
  refine sw_seq ?_
  refine sl_region ?_
  refine sl_as rfl rfl rfl ?_
  refine sl_nil ?_
  refine sw_seq ?_
  refine sw_seq ?_
  refine sl_region ?_
  refine sl_mv rfl rfl rfl ?_
  refine sl_eq_nil rfl rfl rfl u_22 ?_
  refine sl_nil ?_
  refine sw_false rfl (rfl) ?_
  refine sw_skip ?_
  refine sw_seq ?_
  refine sw_seq ?_
  refine sl_region ?_
  refine sl_mv rfl rfl rfl ?_
  refine sl_callf rfl rfl cal_28 (level_ok k n s a b σ) ?_ ?_ ?_ (fun _ _ h => h.elim)
  · repeat constructor
  · repeat constructor
  rintro _ _ ⟨rfl, hσ⟩
  have hσ2 := hσ.symm
  subst hσ2
  refine sl_mv rfl rfl rfl ?_
  refine sl_bin rfl rfl rfl rfl rfl ?_
  refine sl_nil ?_
  refine sw_cond rfl (fun h1 => ?_) (fun h1 => ?_)
  · refine sw_seq ?_
    refine sl_region ?_
    refine sl_mv rfl rfl rfl ?_
    refine sl_callf rfl rfl cal_11 (h σ) ?_ ?_ ?_ (fun _ _ h => h.elim)
    · repeat constructor
    · repeat constructor
    rintro _ _ ⟨rfl, hσ⟩
    have hσ2 := hσ.symm
    subst hσ2
    refine sl_str_add rfl rfl rfl rfl (by simp only [List.length_cons, List.length_nil]; omega) ?_
    refine sl_str_add rfl rfl rfl rfl (by simp only [List.length_append, List.length_cons, List.length_nil]; omega) ?_
    refine sl_as rfl rfl rfl ?_
    refine sl_nil ?_
    refine sw_ret ⟨rfl, _, _, res_one rfl rfl, ?_, ⟨congrArg (fun z => D.val (.str z)) (by rw [h1]; rfl), rfl⟩⟩
    repeat constructor
  refine sw_skip ?_
  refine sw_seq ?_
  refine sl_region ?_
  refine sl_mv rfl rfl rfl ?_
  refine sl_callf rfl rfl cal_11 (h σ) ?_ ?_ ?_ (fun _ _ h => h.elim)
  · repeat constructor
  · repeat constructor
  rintro _ _ ⟨rfl, hσ⟩
  have hσ2 := hσ.symm
  subst hσ2
  refine sl_as rfl rfl rfl ?_
  refine sl_nil ?_
  refine sw_ret ⟨rfl, _, _, res_one rfl rfl, ?_, ⟨congrArg (fun z => D.val (.str z)) (by rw [h1]; rfl), rfl⟩⟩
  repeat constructor

/-- A part's text, out of the sum's. -/
theorem part_of (a : Ex) (m : Int) (hm : m ≤ 3) (σ : List Chunk) (hl : (prE a).length ≤ 100000) (h : ∀ σ, FSpec Tryd.prog 11 [.val (exV a)] σ (fun d σ' => d = .val (.str (prE a)) ∧ σ' = σ)) :
    FSpec Tryd.prog 29 [.val (exV a), .val (.int .i64 m)] σ (fun d σ' => d = .val (.str (wrapT (decide (lvlE a < m)) (prE a))) ∧ σ' = σ) := by
  cases a with
  | nil =>
    refine FSpec.mono (part_nil m σ) fun d σ' h => ?_
    rw [h.1, h.2]
    exact ⟨congrArg (fun z => D.val (.str z)) (by rw [decide_eq_false (by show ¬ (4 : Int) < m; omega)]; rfl), rfl⟩
  | node k n s a b => exact part_node k n s a b m σ _ hl h

theorem expr_nil (σ : List Chunk) : FSpec Tryd.prog 11 [.val .nil] σ (fun d σ' => d = .val (.str []) ∧ σ' = σ) := by
  refine spec_of_sw Tryd.func11 rfl ?_
  refine sw_seq ?_
  refine sl_region ?_
  refine sl_as rfl rfl rfl ?_
  refine sl_nil ?_
  refine sw_seq ?_
  refine sw_seq ?_
  refine sl_region ?_
  refine sl_mv rfl rfl rfl ?_
  refine sl_eq_nil rfl rfl rfl u_22 ?_
  refine sl_nil ?_
  refine sw_true rfl (rfl) ?_
  refine sw_seq ?_
  refine sl_region ?_
  refine sl_as rfl rfl rfl ?_
  refine sl_nil ?_
  refine sw_ret ⟨rfl, _, _, res_one rfl rfl, ?_, ⟨rfl, rfl⟩⟩
  repeat constructor

theorem expr_node (k n : Int) (s : Txt) (a b : Ex) (σ : List Chunk) (hn : isI64 n) (ha : (prE a).length ≤ 10000) (hb : (prE b).length ≤ 10000)
    (iha : ∀ σ, FSpec Tryd.prog 11 [.val (exV a)] σ (fun d σ' => d = .val (.str (prE a)) ∧ σ' = σ)) (ihb : ∀ σ, FSpec Tryd.prog 11 [.val (exV b)] σ (fun d σ' => d = .val (.str (prE b)) ∧ σ' = σ)) :
    FSpec Tryd.prog 11 [.val (.ref (.agg [.int .i64 k, .int .i64 n, .str s, exV a, exV b]))] σ (fun d σ' => d = .val (.str (prE (.node k n s a b))) ∧ σ' = σ) := by
  have wa := fun x => wrap_len x (prE a)
  have wb := fun x => wrap_len x (prE b)
  have hs := sign_len k
  refine spec_of_sw Tryd.func11 rfl ?_
  refine sw_seq ?_
  refine sl_region ?_
  refine sl_as rfl rfl rfl ?_
  refine sl_nil ?_
  refine sw_seq ?_
  refine sw_seq ?_
  refine sl_region ?_
  refine sl_mv rfl rfl rfl ?_
  refine sl_eq_nil rfl rfl rfl u_22 ?_
  refine sl_nil ?_
  refine sw_false rfl (rfl) ?_
  refine sw_skip ?_
  refine sw_seq ?_
  refine sw_seq ?_
  refine sl_region ?_
  refine sl_mv rfl rfl rfl ?_
  refine sl_callf rfl rfl cal_28 (level_ok k n s a b σ) ?_ ?_ ?_ (fun _ _ h => h.elim)
  · repeat constructor
  · repeat constructor
  rintro _ _ ⟨rfl, hσ⟩
  have hσ2 := hσ.symm
  subst hσ2
  refine sl_as rfl rfl rfl ?_
  refine sl_nil ?_
  refine sw_block ?_
  refine sw_seq ?_
  refine sl_region ?_
  refine sl_mv rfl rfl rfl ?_
  refine sl_nc rfl rfl rfl rfl ?_
  first
    | refine sl_fieldAddr_ptr rfl rfl rfl fo_53_0 ?_
    | refine sl_fieldAddr_rp rfl rfl rfl fo_53_0 ?_
    | refine sl_fieldAddr_ref rfl rfl rfl fo_53_0 ?_
  first
    | refine sl_load_rp1 rfl rfl rfl ag_3 rfl ?_
    | refine sl_load_blk1 rfl rfl rfl ag_3 (by repeat constructor) rfl ?_
  refine sl_bin rfl rfl rfl rfl rfl ?_
  refine sl_as rfl rfl rfl ?_
  refine sl_nil ?_
  refine sw_cond rfl (fun h1 => ?_) (fun h1 => ?_)
  · refine sw_seq ?_
    refine sl_region ?_
    refine sl_mv rfl rfl rfl ?_
    refine sl_nc rfl rfl rfl rfl ?_
    first
      | refine sl_fieldAddr_ptr rfl rfl rfl fo_53_3 ?_
      | refine sl_fieldAddr_rp rfl rfl rfl fo_53_3 ?_
      | refine sl_fieldAddr_ref rfl rfl rfl fo_53_3 ?_
    first
      | refine sl_load_rp1 rfl rfl rfl ag_22 rfl ?_
      | refine sl_load_blk1 rfl rfl rfl ag_22 (by repeat constructor) rfl ?_
    refine sl_callf rfl rfl cal_29 (part_of a 3 (by decide) σ (by omega) iha) ?_ ?_ ?_ (fun _ _ h => h.elim)
    · repeat constructor
    · repeat constructor
    rintro _ _ ⟨rfl, hσ⟩
    have hσ2 := hσ.symm
    subst hσ2
    refine sl_str_add rfl rfl rfl rfl (by have := wa (decide (lvlE a < 3)); simp only [List.length_cons, List.length_nil]; omega) ?_
    refine sl_as rfl rfl rfl ?_
    refine sl_nil ?_
    refine sw_ret ⟨rfl, _, _, res_one rfl rfl, ?_, ⟨congrArg (fun z => D.val (.str z)) (by rw [prE, if_pos (eqi_tt h1)]), rfl⟩⟩
    repeat constructor
  refine sw_seq ?_
  refine sl_region ?_
  refine sl_mv rfl rfl rfl ?_
  refine sl_bin rfl rfl rfl rfl rfl ?_
  refine sl_as rfl rfl rfl ?_
  refine sl_nil ?_
  refine sw_cond rfl (fun h2 => ?_) (fun h2 => ?_)
  · have h2' : lvl k ≤ 2 := of_decide_eq_true h2
    have hlr := lvl_range k
    refine sw_seq ?_
    refine sa_start [] mixed ?_
    refine sa_take 0 rfl rfl (by kernel_rfl) .nil (pu_mv rfl rfl) ?_
    refine sa_take 1 rfl rfl (by kernel_rfl) .nil (pu_nc rfl rfl rfl) ?_
    first
      | refine sa_take 2 rfl rfl (by kernel_rfl) .nil (pu_fieldAddr_ptr rfl rfl fo_53_3) ?_
      | refine sa_take 2 rfl rfl (by kernel_rfl) .nil (pu_fieldAddr_rp rfl rfl fo_53_3) ?_
      | refine sa_take 2 rfl rfl (by kernel_rfl) .nil (pu_fieldAddr_ref rfl rfl fo_53_3) ?_
    refine sa_take 3 rfl rfl (by kernel_rfl) .nil (pu_load_rp1 rfl rfl ag_22 rfl) ?_
    refine sa_take 4 rfl rfl (by kernel_rfl) .nil (pu_mv rfl rfl) ?_
    refine sa_take 6 rfl rfl (by kernel_rfl) .nil (pu_mv rfl rfl) ?_
    refine sa_take 7 rfl rfl (by kernel_rfl) .nil (pu_nc rfl rfl rfl) ?_
    first
      | refine sa_take 8 rfl rfl (by kernel_rfl) .nil (pu_fieldAddr_ptr rfl rfl fo_53_0) ?_
      | refine sa_take 8 rfl rfl (by kernel_rfl) .nil (pu_fieldAddr_rp rfl rfl fo_53_0) ?_
      | refine sa_take 8 rfl rfl (by kernel_rfl) .nil (pu_fieldAddr_ref rfl rfl fo_53_0) ?_
    refine sa_take 9 rfl rfl (by kernel_rfl) .nil (pu_load_rp1 rfl rfl ag_3 rfl) ?_
    refine sa_take 12 rfl rfl (by kernel_rfl) .nil (pu_mv rfl rfl) ?_
    refine sa_take 13 rfl rfl (by kernel_rfl) .nil (pu_nc rfl rfl rfl) ?_
    first
      | refine sa_take 14 rfl rfl (by kernel_rfl) .nil (pu_fieldAddr_ptr rfl rfl fo_53_4) ?_
      | refine sa_take 14 rfl rfl (by kernel_rfl) .nil (pu_fieldAddr_rp rfl rfl fo_53_4) ?_
      | refine sa_take 14 rfl rfl (by kernel_rfl) .nil (pu_fieldAddr_ref rfl rfl fo_53_4) ?_
    refine sa_take 15 rfl rfl (by kernel_rfl) .nil (pu_load_rp1 rfl rfl ag_22 rfl) ?_
    refine sa_take 16 rfl rfl (by kernel_rfl) .nil (pu_mv rfl rfl) ?_
    refine sa_take 17 rfl rfl (by kernel_rfl) .nil (pu_bin rfl rfl rfl rfl) ?_
    refine sa_set 40 (.val (.int .i64 (lvl k + 1))) (congrArg (fun z => D.val (.int .i64 z)) (wrap_i64 (by omega) (by omega))) ?_
    refine sa_one 5 (by kernel_rfl) rfl ?_
    refine sl_callf rfl rfl cal_29 (part_of a (lvl k) (by omega) σ (by omega) iha) ?_ ?_ ?_ (fun _ _ h => h.elim)
    · repeat constructor
    · repeat constructor
    rintro _ _ ⟨rfl, hσ⟩
    have hσ2 := hσ.symm
    subst hσ2
    refine sl_nil ⟨.nil, ?_⟩
    refine sa_one 10 (by kernel_rfl) rfl ?_
    refine sl_callf rfl rfl cal_30 (sign_ok k σ) ?_ ?_ ?_ (fun _ _ h => h.elim)
    · repeat constructor
    · repeat constructor
    rintro _ _ ⟨rfl, hσ⟩
    have hσ2 := hσ.symm
    subst hσ2
    refine sl_nil ⟨.nil, ?_⟩
    refine sa_two 11 18 (by kernel_rfl) rfl rfl ?_ ?_
    · refine sl_str_add rfl rfl rfl rfl (by have := wa (decide (lvlE a < lvl k)); omega) ?_
      refine sl_nil ⟨.nil, ?_⟩
      refine sa_one 18 (by kernel_rfl) rfl ?_
      refine sl_callf rfl rfl cal_29 (part_of b (lvl k + 1) (by omega) σ (by omega) ihb) ?_ ?_ ?_ (fun _ _ h => h.elim)
      · repeat constructor
      · repeat constructor
      rintro _ _ ⟨rfl, hσ⟩
      have hσ2 := hσ.symm
      subst hσ2
      refine sl_nil ⟨.nil, ?_⟩
      refine sa_one 19 (by kernel_rfl) rfl ?_
      refine sl_str_add rfl rfl rfl rfl (by have e1 := wa (decide (lvlE a < lvl k)); have e2 := wb (decide (lvlE b < lvl k + 1)); simp only [List.length_append]; omega) ?_
      refine sl_nil ⟨.nil, ?_⟩
      refine sa_one 20 (by kernel_rfl) rfl ?_
      refine sl_as rfl rfl rfl ?_
      refine sl_nil ⟨.nil, ?_⟩
      refine sa_done (by kernel_rfl) ?_
      refine sw_ret ⟨rfl, _, _, res_one rfl rfl, ?_, ⟨congrArg (fun z => D.val (.str z)) (by rw [prE, if_neg (eqi_ff h1), if_pos h2']), rfl⟩⟩
      repeat constructor
    refine sl_callf rfl rfl cal_29 (part_of b (lvl k + 1) (by omega) σ (by omega) ihb) ?_ ?_ ?_ (fun _ _ h => h.elim)
    · repeat constructor
    · repeat constructor
    rintro _ _ ⟨rfl, hσ⟩
    have hσ2 := hσ.symm
    subst hσ2
    refine sl_nil ⟨.nil, ?_⟩
    refine sa_one 11 (by kernel_rfl) rfl ?_
    refine sl_str_add rfl rfl rfl rfl (by have := wa (decide (lvlE a < lvl k)); omega) ?_
    refine sl_nil ⟨.nil, ?_⟩
    refine sa_one 19 (by kernel_rfl) rfl ?_
    refine sl_str_add rfl rfl rfl rfl (by have e1 := wa (decide (lvlE a < lvl k)); have e2 := wb (decide (lvlE b < lvl k + 1)); simp only [List.length_append]; omega) ?_
    refine sl_nil ⟨.nil, ?_⟩
    refine sa_one 20 (by kernel_rfl) rfl ?_
    refine sl_as rfl rfl rfl ?_
    refine sl_nil ⟨.nil, ?_⟩
    refine sa_done (by kernel_rfl) ?_
    refine sw_ret ⟨rfl, _, _, res_one rfl rfl, ?_, ⟨congrArg (fun z => D.val (.str z)) (by rw [prE, if_neg (eqi_ff h1), if_pos h2']), rfl⟩⟩
    repeat constructor
  have h2' : ¬ lvl k ≤ 2 := of_decide_eq_false h2
  refine sw_seq ?_
  refine sl_region ?_
  refine sl_mv rfl rfl rfl ?_
  refine sl_nc rfl rfl rfl rfl ?_
  first
    | refine sl_fieldAddr_ptr rfl rfl rfl fo_53_0 ?_
    | refine sl_fieldAddr_rp rfl rfl rfl fo_53_0 ?_
    | refine sl_fieldAddr_ref rfl rfl rfl fo_53_0 ?_
  first
    | refine sl_load_rp1 rfl rfl rfl ag_3 rfl ?_
    | refine sl_load_blk1 rfl rfl rfl ag_3 (by repeat constructor) rfl ?_
  refine sl_bin rfl rfl rfl rfl rfl ?_
  refine sl_as rfl rfl rfl ?_
  refine sl_nil ?_
  refine sw_cond rfl (fun h3 => ?_) (fun h3 => ?_)
  · refine sw_seq ?_
    refine sl_region ?_
    refine sl_mv rfl rfl rfl ?_
    refine sl_nc rfl rfl rfl rfl ?_
    first
      | refine sl_fieldAddr_ptr rfl rfl rfl fo_53_2 ?_
      | refine sl_fieldAddr_rp rfl rfl rfl fo_53_2 ?_
      | refine sl_fieldAddr_ref rfl rfl rfl fo_53_2 ?_
    first
      | refine sl_load_rp1 rfl rfl rfl ag_9 rfl ?_
      | refine sl_load_blk1 rfl rfl rfl ag_9 (by repeat constructor) rfl ?_
    refine sl_as rfl rfl rfl ?_
    refine sl_nil ?_
    refine sw_ret ⟨rfl, _, _, res_one rfl rfl, ?_, ⟨congrArg (fun z => D.val (.str z)) (by rw [prE, if_neg (eqi_ff h1), if_neg h2', if_pos (eqi_tt h3)]), rfl⟩⟩
    repeat constructor
  refine sw_skip ?_
  refine sw_seq ?_
  refine sl_region ?_
  refine sl_mv rfl rfl rfl ?_
  refine sl_nc rfl rfl rfl rfl ?_
  first
    | refine sl_fieldAddr_ptr rfl rfl rfl fo_53_1 ?_
    | refine sl_fieldAddr_rp rfl rfl rfl fo_53_1 ?_
    | refine sl_fieldAddr_ref rfl rfl rfl fo_53_1 ?_
  first
    | refine sl_load_rp1 rfl rfl rfl ag_2 rfl ?_
    | refine sl_load_blk1 rfl rfl rfl ag_2 (by repeat constructor) rfl ?_
  refine sl_callf rfl rfl cal_31 (formatInt_ok n hn σ) ?_ ?_ ?_ (fun _ _ h => h.elim)
  · repeat constructor
  · repeat constructor
  rintro _ _ ⟨rfl, hσ⟩
  have hσ2 := hσ.symm
  subst hσ2
  refine sl_as rfl rfl rfl ?_
  refine sl_nil ?_
  refine sw_ret ⟨rfl, _, _, res_one rfl rfl, ?_, ⟨congrArg (fun z => D.val (.str z)) (by rw [prE, if_neg (eqi_ff h1), if_neg h2', if_neg (eqi_ff h3)]), rfl⟩⟩
  repeat constructor

/-- A sum's text. -/
theorem expr_ok : ∀ (e : Ex), ExOk e → shortE e → szE e ≤ 100 → ∀ σ, FSpec Tryd.prog 11 [.val (exV e)] σ (fun d σ' => d = .val (.str (prE e)) ∧ σ' = σ)
  | .nil, _, _, _, σ => expr_nil σ
  | .node k n s a b, ⟨_, hn, ha, hb⟩, ⟨_, sa, sb⟩, hz, σ => by
    rw [szE] at hz
    have la := prE_len a ha sa
    have lb := prE_len b hb sb
    exact expr_node k n s a b σ hn (by omega) (by omega) (expr_ok a ha sa (by omega)) (expr_ok b hb sb (by omega))

end Go.Proofs.YtlolmemiedhhhaaDoor

/- Walks: printed by a program of this session out of its script DecA. -/
namespace Go.Proofs.YtlolmemiedhhhaaDoor
set_option linter.unusedVariables false
set_option linter.unusedSimpArgs false
set_option maxRecDepth 4000
set_option maxHeartbeats 4000000
open Go Go.RowKit SL


theorem dec_part {k : Nat} (h : k < 10) : (([48, 49, 50, 51, 52, 53, 54, 55, 56, 57] : List UInt8).drop k).take (k + 1 - k) = Lib.itoa (k : Int) := by
  rw [itoa_one (by omega) (by omega)]
  have : k = 0 ∨ k = 1 ∨ k = 2 ∨ k = 3 ∨ k = 4 ∨ k = 5 ∨ k = 6 ∨ k = 7 ∨ k = 8 ∨ k = 9 := by omega
  rcases this with rfl | rfl | rfl | rfl | rfl | rfl | rfl | rfl | rfl | rfl <;> rfl

theorem td_pos {n : Int} (h : 0 ≤ n) : n.tdiv 10 = n / 10 ∧ n.tmod 10 = n % 10 := ⟨Int.tdiv_eq_ediv_of_nonneg h, Int.tmod_eq_emod_of_nonneg h⟩
theorem td_neg {n : Int} (h : n < 0) : n.tdiv 10 = -((-n) / 10) ∧ n.tmod 10 = -((-n) % 10) := by
  have e := td_pos (n := -n) (by omega)
  rw [Int.neg_tdiv, Int.neg_tmod] at e
  omega

/-- The document's decimal numeral, of a number that is not below 0. -/
theorem dec_pos : ∀ (m : Nat) (n : Int), n.natAbs = m → isI64 n → 0 ≤ n → ∀ σ, FSpec Tryd.prog 32 [.val (.int .i64 n)] σ (fun d σ' => d = .val (.str (Lib.itoa n)) ∧ σ' = σ) := by
  intro m
  induction m using Nat.strongRecOn with
  | ind m ih =>
  intro n hm hn h0 σ
  have hn1 := hn.1
  have hn2 := hn.2
  obtain ⟨d1, d2⟩ := td_pos h0
  refine spec_of_sw Tryd.func32 rfl ?_
  refine sw_seq ?_
  refine sl_region ?_
  refine sl_as rfl rfl rfl ?_
  refine sl_nil ?_
  refine sw_seq ?_
  refine sw_seq ?_
  refine sl_region ?_
  refine sl_mv rfl rfl rfl ?_
  refine sl_bin rfl rfl rfl rfl rfl ?_
  refine sl_nil ?_
  refine sw_false rfl (decide_eq_false (by omega)) ?_
  refine sw_skip ?_
  refine sw_seq ?_
  refine sw_seq ?_
  refine sl_region ?_
  refine sl_mv rfl rfl rfl ?_
  refine sl_bin rfl rfl rfl rfl rfl ?_
  refine sl_nil ?_
  refine sw_cond rfl (fun h2 => ?_) (fun h2 => ?_)
  · have h2 : n < 10 := of_decide_eq_true h2
    obtain ⟨k, rfl⟩ : ∃ k : Nat, n = (k : Int) := ⟨n.toNat, by omega⟩
    refine sw_seq ?_
    refine sl_region ?_
    refine sl_mv rfl rfl rfl ?_
    refine sl_mv rfl rfl rfl ?_
    first
      | refine sl_inc rfl rfl rfl rfl (by omega) ?_
      | refine sl_add rfl rfl rfl rfl (by constructor <;> omega) ?_
      | refine sl_bin rfl rfl rfl rfl rfl ?_
    refine sl_set 23 (.val (.int .i64 ((k + 1 : Nat) : Int))) (congrArg (fun z => D.val (.int .i64 z)) (by omega)) ?_
    refine sl_slice_str k (k + 1) rfl rfl rfl u_9 ⟨_, rfl⟩ ⟨_, rfl⟩ (by omega) (show k + 1 ≤ 10 by omega) ?_
    refine sl_as rfl rfl rfl ?_
    refine sl_nil ?_
    refine sw_ret ⟨rfl, _, _, res_one rfl rfl, ?_, ⟨congrArg (fun l => D.val (.str l)) (dec_part (by omega)), rfl⟩⟩
    repeat constructor
  have h2 : ¬ n < 10 := of_decide_eq_false h2
  have q1 : isI64 (n.tdiv 10) := ⟨by omega, by omega⟩
  have q2 : isI64 (n.tmod 10) := ⟨by omega, by omega⟩
  refine sw_skip ?_
  refine sw_seq ?_
  refine sl_region ?_
  refine sl_mv rfl rfl rfl ?_
  refine sl_div rfl rfl rfl rfl (by decide) ?_
  refine sl_set 26 (.val (.int .i64 (n.tdiv 10))) (congrArg (fun z => D.val (.int .i64 z)) (wrap_i64 q1.1 q1.2)) ?_
  refine sl_callp rfl rfl cal_32 (ih (n.tdiv 10).natAbs (by omega) _ rfl q1 (by omega)) ?_ ?_
  · repeat constructor
  refine sl_mv rfl rfl rfl ?_
  refine sl_rem rfl rfl rfl rfl (by decide) ?_
  refine sl_callp rfl rfl cal_32 (ih (n.tmod 10).natAbs (by omega) _ rfl q2 (by omega)) ?_ ?_
  · repeat constructor
  refine sl_str_add rfl rfl rfl rfl (by have := itoa_len q1; have := itoa_len q2; omega) ?_
  refine sl_as rfl rfl rfl ?_
  refine sl_nil ?_
  refine sw_ret ⟨rfl, _, _, res_one rfl rfl, ?_, ⟨by rw [itoa_more (by omega)]; rfl, rfl⟩⟩
  repeat constructor

/-- The document's decimal numeral. -/
theorem dec_ok : ∀ (m : Nat) (n : Int), n.natAbs = m → isI64 n → ∀ σ, FSpec Tryd.prog 32 [.val (.int .i64 n)] σ (fun d σ' => d = .val (.str (Lib.itoa n)) ∧ σ' = σ) := by
  intro m
  induction m using Nat.strongRecOn with
  | ind m ih =>
  intro n hm hn σ
  have hn1 := hn.1
  have hn2 := hn.2
  by_cases h0 : 0 ≤ n
  · exact dec_pos m n hm hn h0 σ
  obtain ⟨d1, d2⟩ := td_neg (n := n) (by omega)
  refine spec_of_sw Tryd.func32 rfl ?_
  refine sw_seq ?_
  refine sl_region ?_
  refine sl_as rfl rfl rfl ?_
  refine sl_nil ?_
  refine sw_seq ?_
  refine sw_seq ?_
  refine sl_region ?_
  refine sl_mv rfl rfl rfl ?_
  refine sl_bin rfl rfl rfl rfl rfl ?_
  refine sl_nil ?_
  refine sw_true rfl (decide_eq_true (by omega)) ?_
  refine sw_seq ?_
  refine sw_seq ?_
  refine sl_region ?_
  refine sl_mv rfl rfl rfl ?_
  refine sl_bin rfl rfl rfl rfl rfl ?_
  refine sl_nil ?_
  refine sw_cond rfl (fun h2 => ?_) (fun h2 => ?_)
  · have h2 : n < -9 := of_decide_eq_true h2
    have q1 : isI64 (n.tdiv 10) := ⟨by omega, by omega⟩
    have q2 : isI64 (-(n.tmod 10)) := ⟨by omega, by omega⟩
    refine sw_seq ?_
    refine sl_region ?_
    refine sl_mv rfl rfl rfl ?_
    refine sl_div rfl rfl rfl rfl (by decide) ?_
    refine sl_set 8 (.val (.int .i64 (n.tdiv 10))) (congrArg (fun z => D.val (.int .i64 z)) (wrap_i64 q1.1 q1.2)) ?_
    refine sl_callp rfl rfl cal_32 (ih (n.tdiv 10).natAbs (by omega) _ rfl q1) ?_ ?_
    · repeat constructor
    refine sl_mv rfl rfl rfl ?_
    refine sl_rem rfl rfl rfl rfl (by decide) ?_
    refine sl_neg rfl rfl rfl ?_
    refine sl_set 12 (.val (.int .i64 (-(n.tmod 10)))) (congrArg (fun z => D.val (.int .i64 z)) (by rw [Int.zero_sub]; exact wrap_i64 q2.1 q2.2)) ?_
    refine sl_callp rfl rfl cal_32 (dec_pos (-(n.tmod 10)).natAbs _ rfl q2 (by omega)) ?_ ?_
    · repeat constructor
    refine sl_str_add rfl rfl rfl rfl (by have := itoa_len q1; have := itoa_len q2; omega) ?_
    refine sl_as rfl rfl rfl ?_
    refine sl_nil ?_
    refine sw_ret ⟨rfl, _, _, res_one rfl rfl, ?_, ⟨by rw [itoa_big h2]; rfl, rfl⟩⟩
    repeat constructor
  have h2 : ¬ n < -9 := of_decide_eq_false h2
  have q1 : isI64 (-n) := ⟨by omega, by omega⟩
  refine sw_skip ?_
  refine sw_seq ?_
  refine sl_region ?_
  refine sl_mv rfl rfl rfl ?_
  refine sl_neg rfl rfl rfl ?_
  refine sl_set 16 (.val (.int .i64 (-n))) (congrArg (fun z => D.val (.int .i64 z)) (by rw [Int.zero_sub]; exact wrap_i64 q1.1 q1.2)) ?_
  refine sl_callp rfl rfl cal_32 (dec_pos (-n).natAbs _ rfl q1 (by omega)) ?_ ?_
  · repeat constructor
  refine sl_str_add rfl rfl rfl rfl (by have := itoa_len q1; simp; omega) ?_
  refine sl_as rfl rfl rfl ?_
  refine sl_nil ?_
  refine sw_ret ⟨rfl, _, _, res_one rfl rfl, ?_, ⟨congrArg (fun l => D.val (.str l)) (itoa_minus (n := n) (by omega)), rfl⟩⟩
  repeat constructor


end Go.Proofs.YtlolmemiedhhhaaDoor

/- Walks: printed by a program of this session out of its script PrB. -/
namespace Go.Proofs.YtlolmemiedhhhaaDoor
set_option linter.unusedVariables false
set_option linter.unusedSimpArgs false
set_option maxRecDepth 4000
set_option maxHeartbeats 4000000
open Go Go.RowKit SL


theorem low_ok (k n : Int) (s : Txt) (a b : Ex) (σ : List Chunk) : FSpec Tryd.prog 34 [.val (exV (.node k n s a b))] σ (fun d σ' => d = .val (.bool (decide (lvl k < 2))) ∧ σ' = σ) := by
  refine spec_of_sw Tryd.func34 rfl ?_
  refine sw_set 0 (.val (.ref (.agg [.int .i64 k, .int .i64 n, .str s, exV a, exV b]))) (rfl) ?_
  refine sw_seq ?_
  refine sl_region ?_
  refine sl_as rfl rfl rfl ?_
  refine sl_nil ?_
  refine sw_seq ?_
  refine sl_region ?_
  refine sl_mv rfl rfl rfl ?_
  refine sl_nc rfl rfl rfl rfl ?_
  first
    | refine sl_fieldAddr_ptr rfl rfl rfl fo_53_0 ?_
    | refine sl_fieldAddr_rp rfl rfl rfl fo_53_0 ?_
    | refine sl_fieldAddr_ref rfl rfl rfl fo_53_0 ?_
  first
    | refine sl_load_rp1 rfl rfl rfl ag_3 rfl ?_
    | refine sl_load_blk1 rfl rfl rfl ag_3 (by repeat constructor) rfl ?_
  refine sl_bin rfl rfl rfl rfl rfl ?_
  refine sl_mv rfl rfl rfl ?_
  refine sl_case_at 8 rfl (fun h1 => ?_) (fun h1 => ?_)
  · refine sl_guard_n rfl rfl rfl h1 ?_
    refine sl_guard_n rfl rfl rfl h1 ?_
    refine sl_guard_n rfl rfl rfl h1 ?_
    refine sl_guard_n rfl rfl rfl h1 ?_
    refine sl_guard_n rfl rfl rfl h1 ?_
    refine sl_pk_t rfl rfl rfl h1 rfl ?_
    refine sl_as rfl rfl rfl ?_
    refine sl_nil ?_
    refine sw_ret ⟨rfl, _, _, res_one rfl rfl, ?_, ⟨isso (by rw [eqi_tt h1]; decide), rfl⟩⟩
    repeat constructor
  refine sl_guard_y rfl rfl rfl h1 ?_
  refine sl_mv rfl rfl rfl ?_
  refine sl_guard_y rfl rfl rfl h1 ?_
  refine sl_nc rfl rfl rfl rfl ?_
  refine sl_guard_y rfl rfl rfl h1 ?_
  first
    | refine sl_fieldAddr_ptr rfl rfl rfl fo_53_0 ?_
    | refine sl_fieldAddr_rp rfl rfl rfl fo_53_0 ?_
    | refine sl_fieldAddr_ref rfl rfl rfl fo_53_0 ?_
  refine sl_guard_y rfl rfl rfl h1 ?_
  first
    | refine sl_load_rp1 rfl rfl rfl ag_3 rfl ?_
    | refine sl_load_blk1 rfl rfl rfl ag_3 (by repeat constructor) rfl ?_
  refine sl_guard_y rfl rfl rfl h1 ?_
  refine sl_bin rfl rfl rfl rfl rfl ?_
  refine sl_set 13 (.val (.bool (decide (lvl k < 2)))) (congrArg (fun b => D.val (.bool b)) (low_eq (eqi_ff h1))) ?_
  refine sl_pk_f rfl rfl rfl h1 rfl ?_
  refine sl_as rfl rfl rfl ?_
  refine sl_nil ?_
  refine sw_ret ⟨rfl, _, _, res_one rfl rfl, ?_, ⟨rfl, rfl⟩⟩
  repeat constructor
theorem high_ok (k n : Int) (s : Txt) (a b : Ex) (σ : List Chunk) : FSpec Tryd.prog 35 [.val (exV (.node k n s a b))] σ (fun d σ' => d = .val (.bool (decide (lvl k = 2))) ∧ σ' = σ) := by
  refine spec_of_sw Tryd.func35 rfl ?_
  refine sw_set 0 (.val (.ref (.agg [.int .i64 k, .int .i64 n, .str s, exV a, exV b]))) (rfl) ?_
  refine sw_seq ?_
  refine sl_region ?_
  refine sl_as rfl rfl rfl ?_
  refine sl_nil ?_
  refine sw_seq ?_
  refine sl_region ?_
  refine sl_mv rfl rfl rfl ?_
  refine sl_nc rfl rfl rfl rfl ?_
  first
    | refine sl_fieldAddr_ptr rfl rfl rfl fo_53_0 ?_
    | refine sl_fieldAddr_rp rfl rfl rfl fo_53_0 ?_
    | refine sl_fieldAddr_ref rfl rfl rfl fo_53_0 ?_
  first
    | refine sl_load_rp1 rfl rfl rfl ag_3 rfl ?_
    | refine sl_load_blk1 rfl rfl rfl ag_3 (by repeat constructor) rfl ?_
  refine sl_bin rfl rfl rfl rfl rfl ?_
  refine sl_mv rfl rfl rfl ?_
  refine sl_case_at 8 rfl (fun h1 => ?_) (fun h1 => ?_)
  · refine sl_guard_y rfl rfl rfl h1 ?_
    refine sl_mv rfl rfl rfl ?_
    refine sl_guard_y rfl rfl rfl h1 ?_
    refine sl_nc rfl rfl rfl rfl ?_
    refine sl_guard_y rfl rfl rfl h1 ?_
    first
      | refine sl_fieldAddr_ptr rfl rfl rfl fo_53_0 ?_
      | refine sl_fieldAddr_rp rfl rfl rfl fo_53_0 ?_
      | refine sl_fieldAddr_ref rfl rfl rfl fo_53_0 ?_
    refine sl_guard_y rfl rfl rfl h1 ?_
    first
      | refine sl_load_rp1 rfl rfl rfl ag_3 rfl ?_
      | refine sl_load_blk1 rfl rfl rfl ag_3 (by repeat constructor) rfl ?_
    refine sl_guard_y rfl rfl rfl h1 ?_
    refine sl_bin rfl rfl rfl rfl rfl ?_
    refine sl_set 13 (.val (.bool (decide (lvl k = 2)))) (congrArg (fun b => D.val (.bool b)) (high_eq (of_decide_eq_true h1))) ?_
    refine sl_pk_t rfl rfl rfl h1 rfl ?_
    refine sl_as rfl rfl rfl ?_
    refine sl_nil ?_
    refine sw_ret ⟨rfl, _, _, res_one rfl rfl, ?_, ⟨rfl, rfl⟩⟩
    repeat constructor
  refine sl_guard_n rfl rfl rfl h1 ?_
  refine sl_guard_n rfl rfl rfl h1 ?_
  refine sl_guard_n rfl rfl rfl h1 ?_
  refine sl_guard_n rfl rfl rfl h1 ?_
  refine sl_guard_n rfl rfl rfl h1 ?_
  refine sl_pk_f rfl rfl rfl h1 rfl ?_
  refine sl_as rfl rfl rfl ?_
  refine sl_nil ?_
  refine sw_ret ⟨rfl, _, _, res_one rfl rfl, ?_, ⟨isnt (fun h => by have := lvl_two h; have := of_decide_eq_false h1; omega), rfl⟩⟩
  repeat constructor

theorem rpart_of (a : Ex) (w : Bool) (hl : (prE a).length ≤ 100000) (h : ∀ σ, FSpec Tryd.prog 12 [.val (exV a)] σ (fun d σ' => d = .val (.str (prE a)) ∧ σ' = σ)) (σ : List Chunk) :
    FSpec Tryd.prog 33 [.val (exV a), .val (.bool w)] σ (fun d σ' => d = .val (.str (wrapT w (prE a))) ∧ σ' = σ) := by
  refine spec_of_sw Tryd.func33 rfl ?_
  refine sw_seq ?_
  refine sl_region ?_
  refine sl_as rfl rfl rfl ?_
  refine sl_nil ?_
  refine sw_seq ?_
  refine sw_seq ?_
  refine sl_region ?_
  refine sl_mv rfl rfl rfl ?_
  refine sl_nil ?_
  refine sw_cond rfl (fun h1 => ?_) (fun h1 => ?_)
  · have e1 : w = true := h1
    refine sw_seq ?_
    refine sl_region ?_
    refine sl_mv rfl rfl rfl ?_
    refine sl_callf rfl rfl cal_12 (h σ) ?_ ?_ ?_ (fun _ _ h => h.elim)
    · repeat constructor
    · repeat constructor
    rintro _ _ ⟨rfl, hσ⟩
    have hσ2 := hσ.symm
    subst hσ2
    refine sl_str_add rfl rfl rfl rfl (by simp only [List.length_cons, List.length_nil]; omega) ?_
    refine sl_str_add rfl rfl rfl rfl (by simp only [List.length_append, List.length_cons, List.length_nil]; omega) ?_
    refine sl_as rfl rfl rfl ?_
    refine sl_nil ?_
    refine sw_ret ⟨rfl, _, _, res_one rfl rfl, ?_, ⟨congrArg (fun z => D.val (.str z)) (by rw [e1]; rfl), rfl⟩⟩
    repeat constructor
  have e1 : w = false := h1
  refine sw_skip ?_
  refine sw_seq ?_
  refine sl_region ?_
  refine sl_mv rfl rfl rfl ?_
  refine sl_callf rfl rfl cal_12 (h σ) ?_ ?_ ?_ (fun _ _ h => h.elim)
  · repeat constructor
  · repeat constructor
  rintro _ _ ⟨rfl, hσ⟩
  have hσ2 := hσ.symm
  subst hσ2
  refine sl_as rfl rfl rfl ?_
  refine sl_nil ?_
  refine sw_ret ⟨rfl, _, _, res_one rfl rfl, ?_, ⟨congrArg (fun z => D.val (.str z)) (by rw [e1]; rfl), rfl⟩⟩
  repeat constructor

theorem rexpr_num (n : Int) (hn : isI64 n) (σ : List Chunk) : FSpec Tryd.prog 12 [.val (.ref (.agg [.int .i64 0, .int .i64 n, .str [], .nil, .nil]))] σ (fun d σ' => d = .val (.str (prE (.node 0 n [] .nil .nil))) ∧ σ' = σ) := by
  refine spec_of_sw Tryd.func12 rfl ?_
  refine sw_seq ?_
  refine sl_region ?_
  refine sl_as rfl rfl rfl ?_
  refine sl_nil ?_
  refine sw_seq ?_
  refine sw_seq ?_
  refine sl_region ?_
  refine sl_mv rfl rfl rfl ?_
  refine sl_nc rfl rfl rfl rfl ?_
  first
    | refine sl_fieldAddr_ptr rfl rfl rfl fo_53_0 ?_
    | refine sl_fieldAddr_rp rfl rfl rfl fo_53_0 ?_
    | refine sl_fieldAddr_ref rfl rfl rfl fo_53_0 ?_
  first
    | refine sl_load_rp1 rfl rfl rfl ag_3 rfl ?_
    | refine sl_load_blk1 rfl rfl rfl ag_3 (by repeat constructor) rfl ?_
  refine sl_nil ?_
  refine sw_block ?_
  refine sw_seq ?_
  refine sl_region ?_
  refine sl_bin rfl rfl rfl rfl rfl ?_
  refine sl_as rfl rfl rfl ?_
  refine sl_nil ?_
  refine sw_true rfl (rfl) ?_
  refine sw_seq ?_
  refine sl_region ?_
  refine sl_mv rfl rfl rfl ?_
  refine sl_nc rfl rfl rfl rfl ?_
  first
    | refine sl_fieldAddr_ptr rfl rfl rfl fo_53_1 ?_
    | refine sl_fieldAddr_rp rfl rfl rfl fo_53_1 ?_
    | refine sl_fieldAddr_ref rfl rfl rfl fo_53_1 ?_
  first
    | refine sl_load_rp1 rfl rfl rfl ag_2 rfl ?_
    | refine sl_load_blk1 rfl rfl rfl ag_2 (by repeat constructor) rfl ?_
  refine sl_callf rfl rfl cal_32 (dec_ok _ n rfl hn σ) ?_ ?_ ?_ (fun _ _ h => h.elim)
  · repeat constructor
  · repeat constructor
  rintro _ _ ⟨rfl, hσ⟩
  have hσ2 := hσ.symm
  subst hσ2
  refine sl_as rfl rfl rfl ?_
  refine sl_nil ?_
  refine sw_ret ⟨rfl, _, _, res_one rfl rfl, ?_, ⟨rfl, rfl⟩⟩
  repeat constructor
theorem rexpr_var (s : Txt) (σ : List Chunk) : FSpec Tryd.prog 12 [.val (.ref (.agg [.int .i64 1, .int .i64 0, .str s, .nil, .nil]))] σ (fun d σ' => d = .val (.str (prE (.node 1 0 s .nil .nil))) ∧ σ' = σ) := by
  refine spec_of_sw Tryd.func12 rfl ?_
  refine sw_seq ?_
  refine sl_region ?_
  refine sl_as rfl rfl rfl ?_
  refine sl_nil ?_
  refine sw_seq ?_
  refine sw_seq ?_
  refine sl_region ?_
  refine sl_mv rfl rfl rfl ?_
  refine sl_nc rfl rfl rfl rfl ?_
  first
    | refine sl_fieldAddr_ptr rfl rfl rfl fo_53_0 ?_
    | refine sl_fieldAddr_rp rfl rfl rfl fo_53_0 ?_
    | refine sl_fieldAddr_ref rfl rfl rfl fo_53_0 ?_
  first
    | refine sl_load_rp1 rfl rfl rfl ag_3 rfl ?_
    | refine sl_load_blk1 rfl rfl rfl ag_3 (by repeat constructor) rfl ?_
  refine sl_nil ?_
  refine sw_block ?_
  refine sw_seq ?_
  refine sl_region ?_
  refine sl_bin rfl rfl rfl rfl rfl ?_
  refine sl_as rfl rfl rfl ?_
  refine sl_nil ?_
  refine sw_false rfl (rfl) ?_
  refine sw_seq ?_
  refine sl_region ?_
  refine sl_bin rfl rfl rfl rfl rfl ?_
  refine sl_as rfl rfl rfl ?_
  refine sl_nil ?_
  refine sw_true rfl (rfl) ?_
  refine sw_seq ?_
  refine sl_region ?_
  refine sl_mv rfl rfl rfl ?_
  refine sl_nc rfl rfl rfl rfl ?_
  first
    | refine sl_fieldAddr_ptr rfl rfl rfl fo_53_2 ?_
    | refine sl_fieldAddr_rp rfl rfl rfl fo_53_2 ?_
    | refine sl_fieldAddr_ref rfl rfl rfl fo_53_2 ?_
  first
    | refine sl_load_rp1 rfl rfl rfl ag_9 rfl ?_
    | refine sl_load_blk1 rfl rfl rfl ag_9 (by repeat constructor) rfl ?_
  refine sl_as rfl rfl rfl ?_
  refine sl_nil ?_
  refine sw_ret ⟨rfl, _, _, res_one rfl rfl, ?_, ⟨rfl, rfl⟩⟩
  repeat constructor

theorem rexpr_neg (k n : Int) (s : Txt) (a b : Ex) (ha : (prE (.node k n s a b)).length ≤ 10000)
    (iha : ∀ σ, FSpec Tryd.prog 12 [.val (exV (.node k n s a b))] σ (fun d σ' => d = .val (.str (prE (.node k n s a b))) ∧ σ' = σ)) (σ : List Chunk) :
    FSpec Tryd.prog 12 [.val (.ref (.agg [.int .i64 7, .int .i64 0, .str [], .ref (.agg [.int .i64 k, .int .i64 n, .str s, exV a, exV b]), .nil]))] σ (fun d σ' => d = .val (.str (prE (.node 7 0 [] (.node k n s a b) .nil))) ∧ σ' = σ) := by
  have wa := fun x => wrap_len x (prE (.node k n s a b))
  refine spec_of_sw Tryd.func12 rfl ?_
  refine sw_seq ?_
  refine sl_region ?_
  refine sl_as rfl rfl rfl ?_
  refine sl_nil ?_
  refine sw_seq ?_
  refine sw_seq ?_
  refine sl_region ?_
  refine sl_mv rfl rfl rfl ?_
  refine sl_nc rfl rfl rfl rfl ?_
  first
    | refine sl_fieldAddr_ptr rfl rfl rfl fo_53_0 ?_
    | refine sl_fieldAddr_rp rfl rfl rfl fo_53_0 ?_
    | refine sl_fieldAddr_ref rfl rfl rfl fo_53_0 ?_
  first
    | refine sl_load_rp1 rfl rfl rfl ag_3 rfl ?_
    | refine sl_load_blk1 rfl rfl rfl ag_3 (by repeat constructor) rfl ?_
  refine sl_nil ?_
  refine sw_block ?_
  refine sw_seq ?_
  refine sl_region ?_
  refine sl_bin rfl rfl rfl rfl rfl ?_
  refine sl_as rfl rfl rfl ?_
  refine sl_nil ?_
  refine sw_false rfl (rfl) ?_
  refine sw_seq ?_
  refine sl_region ?_
  refine sl_bin rfl rfl rfl rfl rfl ?_
  refine sl_as rfl rfl rfl ?_
  refine sl_nil ?_
  refine sw_false rfl (rfl) ?_
  refine sw_seq ?_
  refine sl_region ?_
  refine sl_bin rfl rfl rfl rfl rfl ?_
  refine sl_as rfl rfl rfl ?_
  refine sl_nil ?_
  refine sw_true rfl (rfl) ?_
  refine sw_seq ?_
  refine sa_start [] mixed ?_
  refine sa_take 0 rfl rfl (by kernel_rfl) .nil (pu_mv rfl rfl) ?_
  refine sa_take 1 rfl rfl (by kernel_rfl) .nil (pu_nc rfl rfl rfl) ?_
  first
    | refine sa_take 2 rfl rfl (by kernel_rfl) .nil (pu_fieldAddr_ptr rfl rfl fo_53_3) ?_
    | refine sa_take 2 rfl rfl (by kernel_rfl) .nil (pu_fieldAddr_rp rfl rfl fo_53_3) ?_
    | refine sa_take 2 rfl rfl (by kernel_rfl) .nil (pu_fieldAddr_ref rfl rfl fo_53_3) ?_
  refine sa_take 3 rfl rfl (by kernel_rfl) .nil (pu_load_rp1 rfl rfl ag_22 rfl) ?_
  refine sa_take 4 rfl rfl (by kernel_rfl) .nil (pu_mv rfl rfl) ?_
  refine sa_take 5 rfl rfl (by kernel_rfl) .nil (pu_nc rfl rfl rfl) ?_
  first
    | refine sa_take 6 rfl rfl (by kernel_rfl) .nil (pu_fieldAddr_ptr rfl rfl fo_53_3) ?_
    | refine sa_take 6 rfl rfl (by kernel_rfl) .nil (pu_fieldAddr_rp rfl rfl fo_53_3) ?_
    | refine sa_take 6 rfl rfl (by kernel_rfl) .nil (pu_fieldAddr_ref rfl rfl fo_53_3) ?_
  refine sa_take 7 rfl rfl (by kernel_rfl) .nil (pu_load_rp1 rfl rfl ag_22 rfl) ?_
  refine sa_take 8 rfl rfl (by kernel_rfl) .nil (pu_nc rfl rfl rfl) ?_
  first
    | refine sa_take 9 rfl rfl (by kernel_rfl) .nil (pu_fieldAddr_ptr rfl rfl fo_53_0) ?_
    | refine sa_take 9 rfl rfl (by kernel_rfl) .nil (pu_fieldAddr_rp rfl rfl fo_53_0) ?_
    | refine sa_take 9 rfl rfl (by kernel_rfl) .nil (pu_fieldAddr_ref rfl rfl fo_53_0) ?_
  refine sa_take 10 rfl rfl (by kernel_rfl) .nil (pu_load_rp1 rfl rfl ag_3 rfl) ?_
  refine sa_take 11 rfl rfl (by kernel_rfl) .nil (pu_bin rfl rfl rfl rfl) ?_
  refine sa_take 12 rfl rfl (by kernel_rfl) .nil (pu_mv rfl rfl) ?_
  refine sa_case_at 35 rfl (fun h1 => ?_) (fun h1 => ?_)
  · refine sa_take_y 13 rfl rfl rfl rfl h1 (by kernel_rfl) .nil (pu_mv rfl rfl) ?_
    refine sa_take_y 14 rfl rfl rfl rfl h1 (by kernel_rfl) .nil (pu_nc rfl rfl rfl) ?_
    first
      | refine sa_take_y 15 rfl rfl rfl rfl h1 (by kernel_rfl) .nil (pu_fieldAddr_ptr rfl rfl fo_53_3) ?_
      | refine sa_take_y 15 rfl rfl rfl rfl h1 (by kernel_rfl) .nil (pu_fieldAddr_rp rfl rfl fo_53_3) ?_
      | refine sa_take_y 15 rfl rfl rfl rfl h1 (by kernel_rfl) .nil (pu_fieldAddr_ref rfl rfl fo_53_3) ?_
    refine sa_take_y 16 rfl rfl rfl rfl h1 (by kernel_rfl) .nil (pu_load_rp1 rfl rfl ag_22 rfl) ?_
    refine sa_take_y 17 rfl rfl rfl rfl h1 (by kernel_rfl) .nil (pu_nc rfl rfl rfl) ?_
    first
      | refine sa_take_y 18 rfl rfl rfl rfl h1 (by kernel_rfl) .nil (pu_fieldAddr_ptr rfl rfl fo_53_0) ?_
      | refine sa_take_y 18 rfl rfl rfl rfl h1 (by kernel_rfl) .nil (pu_fieldAddr_rp rfl rfl fo_53_0) ?_
      | refine sa_take_y 18 rfl rfl rfl rfl h1 (by kernel_rfl) .nil (pu_fieldAddr_ref rfl rfl fo_53_0) ?_
    refine sa_take_y 19 rfl rfl rfl rfl h1 (by kernel_rfl) .nil (pu_load_rp1 rfl rfl ag_3 rfl) ?_
    refine sa_take_y 20 rfl rfl rfl rfl h1 (by kernel_rfl) .nil (pu_bin rfl rfl rfl rfl) ?_
    refine sa_take 21 rfl rfl (by kernel_rfl) .nil (pu_pk_t rfl rfl h1 rfl) ?_
    refine sa_set 44 (.val (.bool (decide (lvl k < 3)))) (congrArg (fun b => D.val (.bool b)) (neg_eq (of_decide_eq_true h1))) ?_
    refine sa_one 22 (by kernel_rfl) rfl ?_
    refine sl_callf rfl rfl cal_33 (rpart_of (.node k n s a b) (decide (lvl k < 3)) (by omega) iha σ) ?_ ?_ ?_ (fun _ _ h => h.elim)
    · repeat constructor
    · repeat constructor
    rintro _ _ ⟨rfl, hσ⟩
    have hσ2 := hσ.symm
    subst hσ2
    refine sl_nil ⟨.nil, ?_⟩
    refine sa_one 23 (by kernel_rfl) rfl ?_
    refine sl_str_add rfl rfl rfl rfl (by have := wa (decide (lvl k < 3)); simp only [List.length_cons, List.length_nil]; omega) ?_
    refine sl_nil ⟨.nil, ?_⟩
    refine sa_one 24 (by kernel_rfl) rfl ?_
    refine sl_as rfl rfl rfl ?_
    refine sl_nil ⟨.nil, ?_⟩
    refine sa_done (by kernel_rfl) ?_
    refine sw_ret ⟨rfl, _, _, res_one rfl rfl, ?_, ⟨rfl, rfl⟩⟩
    repeat constructor
  refine sa_take_n 13 rfl rfl rfl rfl h1 (by kernel_rfl) .nil ?_
  refine sa_take_n 14 rfl rfl rfl rfl h1 (by kernel_rfl) .nil ?_
  refine sa_take_n 15 rfl rfl rfl rfl h1 (by kernel_rfl) .nil ?_
  refine sa_take_n 16 rfl rfl rfl rfl h1 (by kernel_rfl) .nil ?_
  refine sa_take_n 17 rfl rfl rfl rfl h1 (by kernel_rfl) .nil ?_
  refine sa_take_n 18 rfl rfl rfl rfl h1 (by kernel_rfl) .nil ?_
  refine sa_take_n 19 rfl rfl rfl rfl h1 (by kernel_rfl) .nil ?_
  refine sa_take_n 20 rfl rfl rfl rfl h1 (by kernel_rfl) .nil ?_
  refine sa_take 21 rfl rfl (by kernel_rfl) .nil (pu_pk_f rfl rfl h1 rfl) ?_
  refine sa_set 44 (.val (.bool (decide (lvl k < 3)))) (isnt (fun h => by have := lvl_low h; have := of_decide_eq_false h1; omega)) ?_
  refine sa_one 22 (by kernel_rfl) rfl ?_
  refine sl_callf rfl rfl cal_33 (rpart_of (.node k n s a b) (decide (lvl k < 3)) (by omega) iha σ) ?_ ?_ ?_ (fun _ _ h => h.elim)
  · repeat constructor
  · repeat constructor
  rintro _ _ ⟨rfl, hσ⟩
  have hσ2 := hσ.symm
  subst hσ2
  refine sl_nil ⟨.nil, ?_⟩
  refine sa_one 23 (by kernel_rfl) rfl ?_
  refine sl_str_add rfl rfl rfl rfl (by have := wa (decide (lvl k < 3)); simp only [List.length_cons, List.length_nil]; omega) ?_
  refine sl_nil ⟨.nil, ?_⟩
  refine sa_one 24 (by kernel_rfl) rfl ?_
  refine sl_as rfl rfl rfl ?_
  refine sl_nil ⟨.nil, ?_⟩
  refine sa_done (by kernel_rfl) ?_
  refine sw_ret ⟨rfl, _, _, res_one rfl rfl, ?_, ⟨rfl, rfl⟩⟩
  repeat constructor

theorem bin_low {ka na kb nb : Int} {sa sb g : Txt} {a1 a2 b1 b2 : Ex} {k : Int} (hk : lvl k = 1 ∧ k ≠ 7 ∧ [32] ++ g ++ [32] = signT k) :
    (((wrapT false (prE (.node ka na sa a1 a2)) ++ [32]) ++ g) ++ [32]) ++ wrapT (decide (lvl kb < 2)) (prE (.node kb nb sb b1 b2)) = prE (.node k 0 [] (.node ka na sa a1 a2) (.node kb nb sb b1 b2)) := by
  have hlr := lvl_range ka
  obtain ⟨h1, h7, hs⟩ := hk
  conv => rhs; rw [prE]
  rw [if_neg h7, if_pos (by omega), ← hs, h1]
  show _ = wrapT (decide (lvl ka < 1)) _ ++ _ ++ wrapT (decide (lvl kb < 2)) _
  rw [show decide (lvl ka < 1) = false from decide_eq_false (by omega)]
  simp
theorem bin_high {ka na kb nb : Int} {sa sb g : Txt} {a1 a2 b1 b2 : Ex} {k : Int} {w : Bool} (hw : w = decide (lvl kb < 3)) (hk : lvl k = 2 ∧ k ≠ 7 ∧ [32] ++ g ++ [32] = signT k) :
    (((wrapT (decide (lvl ka < 2)) (prE (.node ka na sa a1 a2)) ++ [32]) ++ g) ++ [32]) ++ wrapT w (prE (.node kb nb sb b1 b2)) = prE (.node k 0 [] (.node ka na sa a1 a2) (.node kb nb sb b1 b2)) := by
  subst hw
  obtain ⟨h1, h7, hs⟩ := hk
  conv => rhs; rw [prE]
  rw [if_neg h7, if_pos (by omega), ← hs, h1]
  show _ = wrapT (decide (lvl ka < 2)) _ ++ _ ++ wrapT (decide (lvl kb < 3)) _
  simp
theorem low_is (k n : Int) (s : Txt) (a b : Ex) {w : Bool} (h : decide (lvl k < 2) = w) (σ : List Chunk) : FSpec Tryd.prog 34 [.val (exV (.node k n s a b))] σ (fun d σ' => d = .val (.bool w) ∧ σ' = σ) := h ▸ low_ok k n s a b σ
theorem high_three {k : Int} (h : ¬ lvl k < 2) : decide (lvl k = 2) = decide (lvl k < 3) := decide_eq_decide.mpr ⟨fun e => by omega, fun e => by omega⟩

theorem rexpr_2 (ka na kb nb : Int) (sa sb : Txt) (a1 a2 b1 b2 : Ex) (ha : (prE (.node ka na sa a1 a2)).length ≤ 10000) (hb : (prE (.node kb nb sb b1 b2)).length ≤ 10000)
    (iha : ∀ σ, FSpec Tryd.prog 12 [.val (exV (.node ka na sa a1 a2))] σ (fun d σ' => d = .val (.str (prE (.node ka na sa a1 a2))) ∧ σ' = σ)) (ihb : ∀ σ, FSpec Tryd.prog 12 [.val (exV (.node kb nb sb b1 b2))] σ (fun d σ' => d = .val (.str (prE (.node kb nb sb b1 b2))) ∧ σ' = σ)) (σ : List Chunk) :
    FSpec Tryd.prog 12 [.val (.ref (.agg [.int .i64 2, .int .i64 0, .str [], .ref (.agg [.int .i64 ka, .int .i64 na, .str sa, exV a1, exV a2]), .ref (.agg [.int .i64 kb, .int .i64 nb, .str sb, exV b1, exV b2])]))] σ (fun d σ' => d = .val (.str (prE (.node 2 0 [] (.node ka na sa a1 a2) (.node kb nb sb b1 b2)))) ∧ σ' = σ) := by
  have wa := fun x => wrap_len x (prE (.node ka na sa a1 a2))
  have wb := fun x => wrap_len x (prE (.node kb nb sb b1 b2))
  have hlr := lvl_range ka
  refine spec_of_sw Tryd.func12 rfl ?_
  refine sw_seq ?_
  refine sl_region ?_
  refine sl_as rfl rfl rfl ?_
  refine sl_nil ?_
  refine sw_seq ?_
  refine sw_seq ?_
  refine sl_region ?_
  refine sl_mv rfl rfl rfl ?_
  refine sl_nc rfl rfl rfl rfl ?_
  first
    | refine sl_fieldAddr_ptr rfl rfl rfl fo_53_0 ?_
    | refine sl_fieldAddr_rp rfl rfl rfl fo_53_0 ?_
    | refine sl_fieldAddr_ref rfl rfl rfl fo_53_0 ?_
  first
    | refine sl_load_rp1 rfl rfl rfl ag_3 rfl ?_
    | refine sl_load_blk1 rfl rfl rfl ag_3 (by repeat constructor) rfl ?_
  refine sl_nil ?_
  refine sw_block ?_
  refine sw_seq ?_
  refine sl_region ?_
  refine sl_bin rfl rfl rfl rfl rfl ?_
  refine sl_as rfl rfl rfl ?_
  refine sl_nil ?_
  refine sw_false rfl (rfl) ?_
  refine sw_seq ?_
  refine sl_region ?_
  refine sl_bin rfl rfl rfl rfl rfl ?_
  refine sl_as rfl rfl rfl ?_
  refine sl_nil ?_
  refine sw_false rfl (rfl) ?_
  refine sw_seq ?_
  refine sl_region ?_
  refine sl_bin rfl rfl rfl rfl rfl ?_
  refine sl_as rfl rfl rfl ?_
  refine sl_nil ?_
  refine sw_false rfl (rfl) ?_
  refine sw_skip ?_
  refine sw_seq ?_
  refine sl_region ?_
  refine sl_bs1 rfl rfl (.cons rfl (.cons rfl (.cons rfl (.cons rfl (.cons rfl .nil))))) u_57 sz_9 zs_9 (by decide) rfl rfl rfl rfl ?_
  refine sl_mv rfl rfl rfl ?_
  refine sl_nc rfl rfl rfl rfl ?_
  first
    | refine sl_fieldAddr_ptr rfl rfl rfl fo_53_0 ?_
    | refine sl_fieldAddr_rp rfl rfl rfl fo_53_0 ?_
    | refine sl_fieldAddr_ref rfl rfl rfl fo_53_0 ?_
  first
    | refine sl_load_rp1 rfl rfl rfl ag_3 rfl ?_
    | refine sl_load_blk1 rfl rfl rfl ag_3 (by repeat constructor) rfl ?_
  first
    | refine sl_sub_ rfl rfl rfl rfl (by constructor <;> omega) ?_
    | refine sl_bin rfl rfl rfl rfl rfl ?_
  refine sl_indexAddr' rfl rfl rfl rfl u_57 sz_9 (by decide) rfl rfl ?_
  first
    | refine sl_load_rp1 rfl rfl rfl ag_9 rfl ?_
    | refine sl_load_blk1 rfl rfl rfl ag_9 (by repeat constructor) rfl ?_
  refine sl_as rfl rfl rfl ?_
  refine sl_nil ?_
  refine sw_seq ?_
  refine sw_seq ?_
  refine sl_region ?_
  refine sl_mv rfl rfl rfl ?_
  refine sl_callp rfl rfl cal_34 (low_ok 2 0 [] (.node ka na sa a1 a2) (.node kb nb sb b1 b2)) ?_ ?_
  · repeat constructor
  refine sl_nil ?_
  refine sw_true rfl (rfl) ?_
  refine sw_seq ?_
  refine sa_start [] mixed ?_
  refine sa_take 0 rfl rfl (by kernel_rfl) .nil (pu_mv rfl rfl) ?_
  refine sa_take 1 rfl rfl (by kernel_rfl) .nil (pu_nc rfl rfl rfl) ?_
  first
    | refine sa_take 2 rfl rfl (by kernel_rfl) .nil (pu_fieldAddr_ptr rfl rfl fo_53_3) ?_
    | refine sa_take 2 rfl rfl (by kernel_rfl) .nil (pu_fieldAddr_rp rfl rfl fo_53_3) ?_
    | refine sa_take 2 rfl rfl (by kernel_rfl) .nil (pu_fieldAddr_ref rfl rfl fo_53_3) ?_
  refine sa_take 3 rfl rfl (by kernel_rfl) .nil (pu_load_rp1 rfl rfl ag_22 rfl) ?_
  refine sa_take 6 rfl rfl (by kernel_rfl) .nil (pu_mv rfl rfl) ?_
  refine sa_take 9 rfl rfl (by kernel_rfl) .nil (pu_mv rfl rfl) ?_
  refine sa_take 10 rfl rfl (by kernel_rfl) .nil (pu_nc rfl rfl rfl) ?_
  first
    | refine sa_take 11 rfl rfl (by kernel_rfl) .nil (pu_fieldAddr_ptr rfl rfl fo_53_4) ?_
    | refine sa_take 11 rfl rfl (by kernel_rfl) .nil (pu_fieldAddr_rp rfl rfl fo_53_4) ?_
    | refine sa_take 11 rfl rfl (by kernel_rfl) .nil (pu_fieldAddr_ref rfl rfl fo_53_4) ?_
  refine sa_take 12 rfl rfl (by kernel_rfl) .nil (pu_load_rp1 rfl rfl ag_22 rfl) ?_
  refine sa_take 13 rfl rfl (by kernel_rfl) .nil (pu_mv rfl rfl) ?_
  refine sa_take 14 rfl rfl (by kernel_rfl) .nil (pu_nc rfl rfl rfl) ?_
  first
    | refine sa_take 15 rfl rfl (by kernel_rfl) .nil (pu_fieldAddr_ptr rfl rfl fo_53_4) ?_
    | refine sa_take 15 rfl rfl (by kernel_rfl) .nil (pu_fieldAddr_rp rfl rfl fo_53_4) ?_
    | refine sa_take 15 rfl rfl (by kernel_rfl) .nil (pu_fieldAddr_ref rfl rfl fo_53_4) ?_
  refine sa_take 16 rfl rfl (by kernel_rfl) .nil (pu_load_rp1 rfl rfl ag_22 rfl) ?_
  refine sa_one 4 (by kernel_rfl) rfl ?_
  refine sl_callp rfl rfl cal_33 (rpart_of (.node ka na sa a1 a2) false (by omega) iha) ?_ ?_
  · repeat constructor
  refine sl_nil ⟨.nil, ?_⟩
  apply sa_conf [.p 5 (some 62) [] _, .p 7 (some 64) [0] _, .p 8 (some 65) [1] _, .p 17 (some 74) [] _, .p 18 (some 75) [3] _] (I := [(5, []), (7, [0]), (8, [1]), (17, []), (18, [3])]) (nT := 5) rfl rfl rfl (by kernel_rfl) .nil
  · refine (.cons ?_ (.cons ?_ (.cons ?_ (.cons ?_ (.cons ?_ .nil)))))
    · apply StepOk.p
      iterate 3 rfl
      intro β σX hσX
      refine sl_str_add rfl rfl rfl rfl (by have := wa false; simp only [List.length_cons, List.length_nil]; omega) ?_
      exact sl_nil ⟨rfl, rfl, rfl, rfl⟩
    · apply StepOk.p
      iterate 3 rfl
      intro β σX hσX
      show SL _ _ _ _ (sput _ (some 62) _) _ _
      refine sl_str_add rfl rfl rfl rfl (by have := wa false; simp only [List.length_append, List.length_cons, List.length_nil]; omega) ?_
      exact sl_nil ⟨rfl, rfl, rfl, rfl⟩
    · apply StepOk.p
      iterate 3 rfl
      intro β σX hσX
      show SL _ _ _ _ (sput _ (some 64) _) _ _
      refine sl_str_add rfl rfl rfl rfl (by have := wa false; simp only [List.length_append, List.length_cons, List.length_nil]; omega) ?_
      exact sl_nil ⟨rfl, rfl, rfl, rfl⟩
    · apply StepOk.p
      iterate 3 rfl
      intro β σX hσX
      refine sl_callp rfl rfl cal_34 (low_ok kb nb sb b1 b2) ?_ ?_
      · repeat constructor
      exact sl_nil ⟨rfl, rfl, rfl, rfl⟩
    · apply StepOk.p
      iterate 3 rfl
      intro β σX hσX
      show SL _ _ _ _ (sput _ (some 74) _) _ _
      refine sl_callp rfl rfl cal_33 (rpart_of (.node kb nb sb b1 b2) (decide (lvl kb < 2)) (by omega) ihb) ?_ ?_
      · repeat constructor
      exact sl_nil ⟨rfl, rfl, rfl, rfl⟩
  refine contT_p (contT_p (contT_p (contT_p (contT_p (contT_nil ?_)))))
  refine sa_one 19 (by kernel_rfl) rfl ?_
  refine sl_str_add rfl rfl rfl rfl (by have e1 := wa false; have e2 := wb (decide (lvl kb < 2)); simp only [List.length_append, List.length_cons, List.length_nil]; omega) ?_
  refine sl_nil ⟨.nil, ?_⟩
  refine sa_one 20 (by kernel_rfl) rfl ?_
  refine sl_as rfl rfl rfl ?_
  refine sl_nil ⟨.nil, ?_⟩
  refine sa_done (by kernel_rfl) ?_
  refine sw_ret ⟨rfl, _, _, res_one rfl rfl, ?_, ⟨congrArg (fun z => D.val (.str z)) (bin_low ⟨rfl, by decide, rfl⟩), rfl⟩⟩
  repeat constructor

theorem rexpr_3 (ka na kb nb : Int) (sa sb : Txt) (a1 a2 b1 b2 : Ex) (ha : (prE (.node ka na sa a1 a2)).length ≤ 10000) (hb : (prE (.node kb nb sb b1 b2)).length ≤ 10000)
    (iha : ∀ σ, FSpec Tryd.prog 12 [.val (exV (.node ka na sa a1 a2))] σ (fun d σ' => d = .val (.str (prE (.node ka na sa a1 a2))) ∧ σ' = σ)) (ihb : ∀ σ, FSpec Tryd.prog 12 [.val (exV (.node kb nb sb b1 b2))] σ (fun d σ' => d = .val (.str (prE (.node kb nb sb b1 b2))) ∧ σ' = σ)) (σ : List Chunk) :
    FSpec Tryd.prog 12 [.val (.ref (.agg [.int .i64 3, .int .i64 0, .str [], .ref (.agg [.int .i64 ka, .int .i64 na, .str sa, exV a1, exV a2]), .ref (.agg [.int .i64 kb, .int .i64 nb, .str sb, exV b1, exV b2])]))] σ (fun d σ' => d = .val (.str (prE (.node 3 0 [] (.node ka na sa a1 a2) (.node kb nb sb b1 b2)))) ∧ σ' = σ) := by
  have wa := fun x => wrap_len x (prE (.node ka na sa a1 a2))
  have wb := fun x => wrap_len x (prE (.node kb nb sb b1 b2))
  have hlr := lvl_range ka
  refine spec_of_sw Tryd.func12 rfl ?_
  refine sw_seq ?_
  refine sl_region ?_
  refine sl_as rfl rfl rfl ?_
  refine sl_nil ?_
  refine sw_seq ?_
  refine sw_seq ?_
  refine sl_region ?_
  refine sl_mv rfl rfl rfl ?_
  refine sl_nc rfl rfl rfl rfl ?_
  first
    | refine sl_fieldAddr_ptr rfl rfl rfl fo_53_0 ?_
    | refine sl_fieldAddr_rp rfl rfl rfl fo_53_0 ?_
    | refine sl_fieldAddr_ref rfl rfl rfl fo_53_0 ?_
  first
    | refine sl_load_rp1 rfl rfl rfl ag_3 rfl ?_
    | refine sl_load_blk1 rfl rfl rfl ag_3 (by repeat constructor) rfl ?_
  refine sl_nil ?_
  refine sw_block ?_
  refine sw_seq ?_
  refine sl_region ?_
  refine sl_bin rfl rfl rfl rfl rfl ?_
  refine sl_as rfl rfl rfl ?_
  refine sl_nil ?_
  refine sw_false rfl (rfl) ?_
  refine sw_seq ?_
  refine sl_region ?_
  refine sl_bin rfl rfl rfl rfl rfl ?_
  refine sl_as rfl rfl rfl ?_
  refine sl_nil ?_
  refine sw_false rfl (rfl) ?_
  refine sw_seq ?_
  refine sl_region ?_
  refine sl_bin rfl rfl rfl rfl rfl ?_
  refine sl_as rfl rfl rfl ?_
  refine sl_nil ?_
  refine sw_false rfl (rfl) ?_
  refine sw_skip ?_
  refine sw_seq ?_
  refine sl_region ?_
  refine sl_bs1 rfl rfl (.cons rfl (.cons rfl (.cons rfl (.cons rfl (.cons rfl .nil))))) u_57 sz_9 zs_9 (by decide) rfl rfl rfl rfl ?_
  refine sl_mv rfl rfl rfl ?_
  refine sl_nc rfl rfl rfl rfl ?_
  first
    | refine sl_fieldAddr_ptr rfl rfl rfl fo_53_0 ?_
    | refine sl_fieldAddr_rp rfl rfl rfl fo_53_0 ?_
    | refine sl_fieldAddr_ref rfl rfl rfl fo_53_0 ?_
  first
    | refine sl_load_rp1 rfl rfl rfl ag_3 rfl ?_
    | refine sl_load_blk1 rfl rfl rfl ag_3 (by repeat constructor) rfl ?_
  first
    | refine sl_sub_ rfl rfl rfl rfl (by constructor <;> omega) ?_
    | refine sl_bin rfl rfl rfl rfl rfl ?_
  refine sl_indexAddr' rfl rfl rfl rfl u_57 sz_9 (by decide) rfl rfl ?_
  first
    | refine sl_load_rp1 rfl rfl rfl ag_9 rfl ?_
    | refine sl_load_blk1 rfl rfl rfl ag_9 (by repeat constructor) rfl ?_
  refine sl_as rfl rfl rfl ?_
  refine sl_nil ?_
  refine sw_seq ?_
  refine sw_seq ?_
  refine sl_region ?_
  refine sl_mv rfl rfl rfl ?_
  refine sl_callp rfl rfl cal_34 (low_ok 3 0 [] (.node ka na sa a1 a2) (.node kb nb sb b1 b2)) ?_ ?_
  · repeat constructor
  refine sl_nil ?_
  refine sw_true rfl (rfl) ?_
  refine sw_seq ?_
  refine sa_start [] mixed ?_
  refine sa_take 0 rfl rfl (by kernel_rfl) .nil (pu_mv rfl rfl) ?_
  refine sa_take 1 rfl rfl (by kernel_rfl) .nil (pu_nc rfl rfl rfl) ?_
  first
    | refine sa_take 2 rfl rfl (by kernel_rfl) .nil (pu_fieldAddr_ptr rfl rfl fo_53_3) ?_
    | refine sa_take 2 rfl rfl (by kernel_rfl) .nil (pu_fieldAddr_rp rfl rfl fo_53_3) ?_
    | refine sa_take 2 rfl rfl (by kernel_rfl) .nil (pu_fieldAddr_ref rfl rfl fo_53_3) ?_
  refine sa_take 3 rfl rfl (by kernel_rfl) .nil (pu_load_rp1 rfl rfl ag_22 rfl) ?_
  refine sa_take 6 rfl rfl (by kernel_rfl) .nil (pu_mv rfl rfl) ?_
  refine sa_take 9 rfl rfl (by kernel_rfl) .nil (pu_mv rfl rfl) ?_
  refine sa_take 10 rfl rfl (by kernel_rfl) .nil (pu_nc rfl rfl rfl) ?_
  first
    | refine sa_take 11 rfl rfl (by kernel_rfl) .nil (pu_fieldAddr_ptr rfl rfl fo_53_4) ?_
    | refine sa_take 11 rfl rfl (by kernel_rfl) .nil (pu_fieldAddr_rp rfl rfl fo_53_4) ?_
    | refine sa_take 11 rfl rfl (by kernel_rfl) .nil (pu_fieldAddr_ref rfl rfl fo_53_4) ?_
  refine sa_take 12 rfl rfl (by kernel_rfl) .nil (pu_load_rp1 rfl rfl ag_22 rfl) ?_
  refine sa_take 13 rfl rfl (by kernel_rfl) .nil (pu_mv rfl rfl) ?_
  refine sa_take 14 rfl rfl (by kernel_rfl) .nil (pu_nc rfl rfl rfl) ?_
  first
    | refine sa_take 15 rfl rfl (by kernel_rfl) .nil (pu_fieldAddr_ptr rfl rfl fo_53_4) ?_
    | refine sa_take 15 rfl rfl (by kernel_rfl) .nil (pu_fieldAddr_rp rfl rfl fo_53_4) ?_
    | refine sa_take 15 rfl rfl (by kernel_rfl) .nil (pu_fieldAddr_ref rfl rfl fo_53_4) ?_
  refine sa_take 16 rfl rfl (by kernel_rfl) .nil (pu_load_rp1 rfl rfl ag_22 rfl) ?_
  refine sa_one 4 (by kernel_rfl) rfl ?_
  refine sl_callp rfl rfl cal_33 (rpart_of (.node ka na sa a1 a2) false (by omega) iha) ?_ ?_
  · repeat constructor
  refine sl_nil ⟨.nil, ?_⟩
  apply sa_conf [.p 5 (some 62) [] _, .p 7 (some 64) [0] _, .p 8 (some 65) [1] _, .p 17 (some 74) [] _, .p 18 (some 75) [3] _] (I := [(5, []), (7, [0]), (8, [1]), (17, []), (18, [3])]) (nT := 5) rfl rfl rfl (by kernel_rfl) .nil
  · refine (.cons ?_ (.cons ?_ (.cons ?_ (.cons ?_ (.cons ?_ .nil)))))
    · apply StepOk.p
      iterate 3 rfl
      intro β σX hσX
      refine sl_str_add rfl rfl rfl rfl (by have := wa false; simp only [List.length_cons, List.length_nil]; omega) ?_
      exact sl_nil ⟨rfl, rfl, rfl, rfl⟩
    · apply StepOk.p
      iterate 3 rfl
      intro β σX hσX
      show SL _ _ _ _ (sput _ (some 62) _) _ _
      refine sl_str_add rfl rfl rfl rfl (by have := wa false; simp only [List.length_append, List.length_cons, List.length_nil]; omega) ?_
      exact sl_nil ⟨rfl, rfl, rfl, rfl⟩
    · apply StepOk.p
      iterate 3 rfl
      intro β σX hσX
      show SL _ _ _ _ (sput _ (some 64) _) _ _
      refine sl_str_add rfl rfl rfl rfl (by have := wa false; simp only [List.length_append, List.length_cons, List.length_nil]; omega) ?_
      exact sl_nil ⟨rfl, rfl, rfl, rfl⟩
    · apply StepOk.p
      iterate 3 rfl
      intro β σX hσX
      refine sl_callp rfl rfl cal_34 (low_ok kb nb sb b1 b2) ?_ ?_
      · repeat constructor
      exact sl_nil ⟨rfl, rfl, rfl, rfl⟩
    · apply StepOk.p
      iterate 3 rfl
      intro β σX hσX
      show SL _ _ _ _ (sput _ (some 74) _) _ _
      refine sl_callp rfl rfl cal_33 (rpart_of (.node kb nb sb b1 b2) (decide (lvl kb < 2)) (by omega) ihb) ?_ ?_
      · repeat constructor
      exact sl_nil ⟨rfl, rfl, rfl, rfl⟩
  refine contT_p (contT_p (contT_p (contT_p (contT_p (contT_nil ?_)))))
  refine sa_one 19 (by kernel_rfl) rfl ?_
  refine sl_str_add rfl rfl rfl rfl (by have e1 := wa false; have e2 := wb (decide (lvl kb < 2)); simp only [List.length_append, List.length_cons, List.length_nil]; omega) ?_
  refine sl_nil ⟨.nil, ?_⟩
  refine sa_one 20 (by kernel_rfl) rfl ?_
  refine sl_as rfl rfl rfl ?_
  refine sl_nil ⟨.nil, ?_⟩
  refine sa_done (by kernel_rfl) ?_
  refine sw_ret ⟨rfl, _, _, res_one rfl rfl, ?_, ⟨congrArg (fun z => D.val (.str z)) (bin_low ⟨rfl, by decide, rfl⟩), rfl⟩⟩
  repeat constructor

theorem rexpr_4 (ka na kb nb : Int) (sa sb : Txt) (a1 a2 b1 b2 : Ex) (ha : (prE (.node ka na sa a1 a2)).length ≤ 10000) (hb : (prE (.node kb nb sb b1 b2)).length ≤ 10000)
    (iha : ∀ σ, FSpec Tryd.prog 12 [.val (exV (.node ka na sa a1 a2))] σ (fun d σ' => d = .val (.str (prE (.node ka na sa a1 a2))) ∧ σ' = σ)) (ihb : ∀ σ, FSpec Tryd.prog 12 [.val (exV (.node kb nb sb b1 b2))] σ (fun d σ' => d = .val (.str (prE (.node kb nb sb b1 b2))) ∧ σ' = σ)) (σ : List Chunk) :
    FSpec Tryd.prog 12 [.val (.ref (.agg [.int .i64 4, .int .i64 0, .str [], .ref (.agg [.int .i64 ka, .int .i64 na, .str sa, exV a1, exV a2]), .ref (.agg [.int .i64 kb, .int .i64 nb, .str sb, exV b1, exV b2])]))] σ (fun d σ' => d = .val (.str (prE (.node 4 0 [] (.node ka na sa a1 a2) (.node kb nb sb b1 b2)))) ∧ σ' = σ) := by
  have wa := fun x => wrap_len x (prE (.node ka na sa a1 a2))
  have wb := fun x => wrap_len x (prE (.node kb nb sb b1 b2))
  have hlr := lvl_range ka
  refine spec_of_sw Tryd.func12 rfl ?_
  refine sw_seq ?_
  refine sl_region ?_
  refine sl_as rfl rfl rfl ?_
  refine sl_nil ?_
  refine sw_seq ?_
  refine sw_seq ?_
  refine sl_region ?_
  refine sl_mv rfl rfl rfl ?_
  refine sl_nc rfl rfl rfl rfl ?_
  first
    | refine sl_fieldAddr_ptr rfl rfl rfl fo_53_0 ?_
    | refine sl_fieldAddr_rp rfl rfl rfl fo_53_0 ?_
    | refine sl_fieldAddr_ref rfl rfl rfl fo_53_0 ?_
  first
    | refine sl_load_rp1 rfl rfl rfl ag_3 rfl ?_
    | refine sl_load_blk1 rfl rfl rfl ag_3 (by repeat constructor) rfl ?_
  refine sl_nil ?_
  refine sw_block ?_
  refine sw_seq ?_
  refine sl_region ?_
  refine sl_bin rfl rfl rfl rfl rfl ?_
  refine sl_as rfl rfl rfl ?_
  refine sl_nil ?_
  refine sw_false rfl (rfl) ?_
  refine sw_seq ?_
  refine sl_region ?_
  refine sl_bin rfl rfl rfl rfl rfl ?_
  refine sl_as rfl rfl rfl ?_
  refine sl_nil ?_
  refine sw_false rfl (rfl) ?_
  refine sw_seq ?_
  refine sl_region ?_
  refine sl_bin rfl rfl rfl rfl rfl ?_
  refine sl_as rfl rfl rfl ?_
  refine sl_nil ?_
  refine sw_false rfl (rfl) ?_
  refine sw_skip ?_
  refine sw_seq ?_
  refine sl_region ?_
  refine sl_bs1 rfl rfl (.cons rfl (.cons rfl (.cons rfl (.cons rfl (.cons rfl .nil))))) u_57 sz_9 zs_9 (by decide) rfl rfl rfl rfl ?_
  refine sl_mv rfl rfl rfl ?_
  refine sl_nc rfl rfl rfl rfl ?_
  first
    | refine sl_fieldAddr_ptr rfl rfl rfl fo_53_0 ?_
    | refine sl_fieldAddr_rp rfl rfl rfl fo_53_0 ?_
    | refine sl_fieldAddr_ref rfl rfl rfl fo_53_0 ?_
  first
    | refine sl_load_rp1 rfl rfl rfl ag_3 rfl ?_
    | refine sl_load_blk1 rfl rfl rfl ag_3 (by repeat constructor) rfl ?_
  first
    | refine sl_sub_ rfl rfl rfl rfl (by constructor <;> omega) ?_
    | refine sl_bin rfl rfl rfl rfl rfl ?_
  refine sl_indexAddr' rfl rfl rfl rfl u_57 sz_9 (by decide) rfl rfl ?_
  first
    | refine sl_load_rp1 rfl rfl rfl ag_9 rfl ?_
    | refine sl_load_blk1 rfl rfl rfl ag_9 (by repeat constructor) rfl ?_
  refine sl_as rfl rfl rfl ?_
  refine sl_nil ?_
  refine sw_seq ?_
  refine sw_seq ?_
  refine sl_region ?_
  refine sl_mv rfl rfl rfl ?_
  refine sl_callp rfl rfl cal_34 (low_ok 4 0 [] (.node ka na sa a1 a2) (.node kb nb sb b1 b2)) ?_ ?_
  · repeat constructor
  refine sl_nil ?_
  refine sw_false rfl (rfl) ?_
  by_cases hg : lvl kb < 2
  · refine sw_skip ?_
    refine sw_seq ?_
    refine sa_start [] mixed ?_
    refine sa_take 0 rfl rfl (by kernel_rfl) .nil (pu_mv rfl rfl) ?_
    refine sa_take 1 rfl rfl (by kernel_rfl) .nil (pu_nc rfl rfl rfl) ?_
    first
      | refine sa_take 2 rfl rfl (by kernel_rfl) .nil (pu_fieldAddr_ptr rfl rfl fo_53_3) ?_
      | refine sa_take 2 rfl rfl (by kernel_rfl) .nil (pu_fieldAddr_rp rfl rfl fo_53_3) ?_
      | refine sa_take 2 rfl rfl (by kernel_rfl) .nil (pu_fieldAddr_ref rfl rfl fo_53_3) ?_
    refine sa_take 3 rfl rfl (by kernel_rfl) .nil (pu_load_rp1 rfl rfl ag_22 rfl) ?_
    refine sa_take 4 rfl rfl (by kernel_rfl) .nil (pu_mv rfl rfl) ?_
    refine sa_take 5 rfl rfl (by kernel_rfl) .nil (pu_nc rfl rfl rfl) ?_
    first
      | refine sa_take 6 rfl rfl (by kernel_rfl) .nil (pu_fieldAddr_ptr rfl rfl fo_53_3) ?_
      | refine sa_take 6 rfl rfl (by kernel_rfl) .nil (pu_fieldAddr_rp rfl rfl fo_53_3) ?_
      | refine sa_take 6 rfl rfl (by kernel_rfl) .nil (pu_fieldAddr_ref rfl rfl fo_53_3) ?_
    refine sa_take 7 rfl rfl (by kernel_rfl) .nil (pu_load_rp1 rfl rfl ag_22 rfl) ?_
    refine sa_take 11 rfl rfl (by kernel_rfl) .nil (pu_mv rfl rfl) ?_
    refine sa_take 14 rfl rfl (by kernel_rfl) .nil (pu_mv rfl rfl) ?_
    refine sa_take 15 rfl rfl (by kernel_rfl) .nil (pu_nc rfl rfl rfl) ?_
    first
      | refine sa_take 16 rfl rfl (by kernel_rfl) .nil (pu_fieldAddr_ptr rfl rfl fo_53_4) ?_
      | refine sa_take 16 rfl rfl (by kernel_rfl) .nil (pu_fieldAddr_rp rfl rfl fo_53_4) ?_
      | refine sa_take 16 rfl rfl (by kernel_rfl) .nil (pu_fieldAddr_ref rfl rfl fo_53_4) ?_
    refine sa_take 17 rfl rfl (by kernel_rfl) .nil (pu_load_rp1 rfl rfl ag_22 rfl) ?_
    refine sa_take 18 rfl rfl (by kernel_rfl) .nil (pu_mv rfl rfl) ?_
    refine sa_take 19 rfl rfl (by kernel_rfl) .nil (pu_nc rfl rfl rfl) ?_
    first
      | refine sa_take 20 rfl rfl (by kernel_rfl) .nil (pu_fieldAddr_ptr rfl rfl fo_53_4) ?_
      | refine sa_take 20 rfl rfl (by kernel_rfl) .nil (pu_fieldAddr_rp rfl rfl fo_53_4) ?_
      | refine sa_take 20 rfl rfl (by kernel_rfl) .nil (pu_fieldAddr_ref rfl rfl fo_53_4) ?_
    refine sa_take 21 rfl rfl (by kernel_rfl) .nil (pu_load_rp1 rfl rfl ag_22 rfl) ?_
    refine sa_one 8 (by kernel_rfl) rfl ?_
    refine sl_callp rfl rfl cal_34 (low_ok ka na sa a1 a2) ?_ ?_
    · repeat constructor
    refine sl_nil ⟨.nil, ?_⟩
    refine sa_one 9 (by kernel_rfl) rfl ?_
    refine sl_callp rfl rfl cal_33 (rpart_of (.node ka na sa a1 a2) (decide (lvl ka < 2)) (by omega) iha) ?_ ?_
    · repeat constructor
    refine sl_nil ⟨.nil, ?_⟩
    apply sa_conf [.p 10 (some 87) [] _, .p 12 (some 89) [0] _, .p 13 (some 90) [1] _, .p 22 (some 99) [] _, .p 23 (some 100) [3] _, .p 24 (some 101) [4] _, .p 25 (some 102) [4, 5] _, .p 26 (some 103) [4, 6] _, .p 27 (some 104) [4, 7] _, .p 28 (some 105) [4, 8] _, .p 29 (some 106) [4, 9] _, .p 30 (some 107) [9, 10] _] (I := [(10, []), (12, [0]), (13, [1]), (22, []), (23, [3]), (24, [4]), (25, [4, 5]), (26, [4, 6]), (27, [4, 7]), (28, [4, 8]), (29, [4, 9]), (30, [9, 10])]) (nT := 12) rfl rfl rfl (by kernel_rfl) .nil
    · refine (.cons ?_ (.cons ?_ (.cons ?_ (.cons ?_ (.cons ?_ (.cons ?_ (.cons ?_ (.cons ?_ (.cons ?_ (.cons ?_ (.cons ?_ (.cons ?_ .nil))))))))))))
      · apply StepOk.p
        iterate 3 rfl
        intro β σX hσX
        refine sl_str_add rfl rfl rfl rfl (by have := wa (decide (lvl ka < 2)); simp only [List.length_cons, List.length_nil]; omega) ?_
        exact sl_nil ⟨rfl, rfl, rfl, rfl⟩
      · apply StepOk.p
        iterate 3 rfl
        intro β σX hσX
        show SL _ _ _ _ (sput _ (some 87) _) _ _
        refine sl_str_add rfl rfl rfl rfl (by have := wa (decide (lvl ka < 2)); simp only [List.length_append, List.length_cons, List.length_nil]; omega) ?_
        exact sl_nil ⟨rfl, rfl, rfl, rfl⟩
      · apply StepOk.p
        iterate 3 rfl
        intro β σX hσX
        show SL _ _ _ _ (sput _ (some 89) _) _ _
        refine sl_str_add rfl rfl rfl rfl (by have := wa (decide (lvl ka < 2)); simp only [List.length_append, List.length_cons, List.length_nil]; omega) ?_
        exact sl_nil ⟨rfl, rfl, rfl, rfl⟩
      · apply StepOk.p
        iterate 3 rfl
        intro β σX hσX
        refine sl_callp rfl rfl cal_34 ((fun σ => low_is kb nb sb b1 b2 (decide_eq_true hg) σ)) ?_ ?_
        · repeat constructor
        exact sl_nil ⟨rfl, rfl, rfl, rfl⟩
      · apply StepOk.p
        iterate 3 rfl
        intro β σX hσX
        show SL _ _ _ _ (sput _ (some 99) _) _ _
        refine sl_mv rfl rfl rfl ?_
        exact sl_nil ⟨rfl, rfl, rfl, rfl⟩
      · apply StepOk.p
        iterate 3 rfl
        intro β σX hσX
        show SL _ _ _ _ (sput _ (some 100) _) _ _
        refine sl_guard_n rfl rfl rfl (rfl) ?_
        exact sl_nil ⟨rfl, rfl, rfl, rfl⟩
      · apply StepOk.p
        iterate 3 rfl
        intro β σX hσX
        show SL _ _ _ _ (sput (sput _ (some 100) _) (some 101) _) _ _
        refine sl_guard_n rfl rfl rfl (rfl) ?_
        exact sl_nil ⟨rfl, rfl, rfl, rfl⟩
      · apply StepOk.p
        iterate 3 rfl
        intro β σX hσX
        show SL _ _ _ _ (sput (sput _ (some 100) _) (some 102) _) _ _
        refine sl_guard_n rfl rfl rfl (rfl) ?_
        exact sl_nil ⟨rfl, rfl, rfl, rfl⟩
      · apply StepOk.p
        iterate 3 rfl
        intro β σX hσX
        show SL _ _ _ _ (sput (sput _ (some 100) _) (some 103) _) _ _
        refine sl_guard_n rfl rfl rfl (rfl) ?_
        exact sl_nil ⟨rfl, rfl, rfl, rfl⟩
      · apply StepOk.p
        iterate 3 rfl
        intro β σX hσX
        show SL _ _ _ _ (sput (sput _ (some 100) _) (some 104) _) _ _
        refine sl_guard_n rfl rfl rfl (rfl) ?_
        exact sl_nil ⟨rfl, rfl, rfl, rfl⟩
      · apply StepOk.p
        iterate 3 rfl
        intro β σX hσX
        show SL _ _ _ _ (sput (sput _ (some 100) _) (some 105) _) _ _
        refine sl_pk_t rfl rfl rfl (rfl) rfl ?_
        exact sl_nil ⟨rfl, rfl, rfl, rfl⟩
      · apply StepOk.p
        iterate 3 rfl
        intro β σX hσX
        show SL _ _ _ _ (sput (sput _ (some 105) _) (some 106) _) _ _
        refine sl_callp rfl rfl cal_33 (rpart_of (.node kb nb sb b1 b2) true (by omega) ihb) ?_ ?_
        · repeat constructor
        exact sl_nil ⟨rfl, rfl, rfl, rfl⟩
    refine contT_p (contT_p (contT_p (contT_p (contT_p (contT_p (contT_p (contT_p (contT_p (contT_p (contT_p (contT_p (contT_nil ?_))))))))))))
    refine sa_set 99 (.val (.bool true)) (rfl) ?_
    refine sa_one 31 (by kernel_rfl) rfl ?_
    refine sl_str_add rfl rfl rfl rfl (by have e1 := wa (decide (lvl ka < 2)); have e2 := wb true; simp only [List.length_append, List.length_cons, List.length_nil]; omega) ?_
    refine sl_nil ⟨.nil, ?_⟩
    refine sa_one 32 (by kernel_rfl) rfl ?_
    refine sl_as rfl rfl rfl ?_
    refine sl_nil ⟨.nil, ?_⟩
    refine sa_done (by kernel_rfl) ?_
    refine sw_ret ⟨rfl, _, _, res_one rfl rfl, ?_, ⟨congrArg (fun z => D.val (.str z)) (bin_high (decide_eq_true (by omega)).symm ⟨rfl, by decide, rfl⟩), rfl⟩⟩
    repeat constructor
  refine sw_skip ?_
  refine sw_seq ?_
  refine sa_start [] mixed ?_
  refine sa_take 0 rfl rfl (by kernel_rfl) .nil (pu_mv rfl rfl) ?_
  refine sa_take 1 rfl rfl (by kernel_rfl) .nil (pu_nc rfl rfl rfl) ?_
  first
    | refine sa_take 2 rfl rfl (by kernel_rfl) .nil (pu_fieldAddr_ptr rfl rfl fo_53_3) ?_
    | refine sa_take 2 rfl rfl (by kernel_rfl) .nil (pu_fieldAddr_rp rfl rfl fo_53_3) ?_
    | refine sa_take 2 rfl rfl (by kernel_rfl) .nil (pu_fieldAddr_ref rfl rfl fo_53_3) ?_
  refine sa_take 3 rfl rfl (by kernel_rfl) .nil (pu_load_rp1 rfl rfl ag_22 rfl) ?_
  refine sa_take 4 rfl rfl (by kernel_rfl) .nil (pu_mv rfl rfl) ?_
  refine sa_take 5 rfl rfl (by kernel_rfl) .nil (pu_nc rfl rfl rfl) ?_
  first
    | refine sa_take 6 rfl rfl (by kernel_rfl) .nil (pu_fieldAddr_ptr rfl rfl fo_53_3) ?_
    | refine sa_take 6 rfl rfl (by kernel_rfl) .nil (pu_fieldAddr_rp rfl rfl fo_53_3) ?_
    | refine sa_take 6 rfl rfl (by kernel_rfl) .nil (pu_fieldAddr_ref rfl rfl fo_53_3) ?_
  refine sa_take 7 rfl rfl (by kernel_rfl) .nil (pu_load_rp1 rfl rfl ag_22 rfl) ?_
  refine sa_take 11 rfl rfl (by kernel_rfl) .nil (pu_mv rfl rfl) ?_
  refine sa_take 14 rfl rfl (by kernel_rfl) .nil (pu_mv rfl rfl) ?_
  refine sa_take 15 rfl rfl (by kernel_rfl) .nil (pu_nc rfl rfl rfl) ?_
  first
    | refine sa_take 16 rfl rfl (by kernel_rfl) .nil (pu_fieldAddr_ptr rfl rfl fo_53_4) ?_
    | refine sa_take 16 rfl rfl (by kernel_rfl) .nil (pu_fieldAddr_rp rfl rfl fo_53_4) ?_
    | refine sa_take 16 rfl rfl (by kernel_rfl) .nil (pu_fieldAddr_ref rfl rfl fo_53_4) ?_
  refine sa_take 17 rfl rfl (by kernel_rfl) .nil (pu_load_rp1 rfl rfl ag_22 rfl) ?_
  refine sa_take 18 rfl rfl (by kernel_rfl) .nil (pu_mv rfl rfl) ?_
  refine sa_take 19 rfl rfl (by kernel_rfl) .nil (pu_nc rfl rfl rfl) ?_
  first
    | refine sa_take 20 rfl rfl (by kernel_rfl) .nil (pu_fieldAddr_ptr rfl rfl fo_53_4) ?_
    | refine sa_take 20 rfl rfl (by kernel_rfl) .nil (pu_fieldAddr_rp rfl rfl fo_53_4) ?_
    | refine sa_take 20 rfl rfl (by kernel_rfl) .nil (pu_fieldAddr_ref rfl rfl fo_53_4) ?_
  refine sa_take 21 rfl rfl (by kernel_rfl) .nil (pu_load_rp1 rfl rfl ag_22 rfl) ?_
  refine sa_one 8 (by kernel_rfl) rfl ?_
  refine sl_callp rfl rfl cal_34 (low_ok ka na sa a1 a2) ?_ ?_
  · repeat constructor
  refine sl_nil ⟨.nil, ?_⟩
  refine sa_one 9 (by kernel_rfl) rfl ?_
  refine sl_callp rfl rfl cal_33 (rpart_of (.node ka na sa a1 a2) (decide (lvl ka < 2)) (by omega) iha) ?_ ?_
  · repeat constructor
  refine sl_nil ⟨.nil, ?_⟩
  apply sa_conf [.p 10 (some 87) [] _, .p 12 (some 89) [0] _, .p 13 (some 90) [1] _, .p 22 (some 99) [] _, .p 23 (some 100) [3] _, .p 24 (some 101) [4] _, .p 25 (some 102) [4, 5] _, .p 26 (some 103) [4, 6] _, .p 27 (some 104) [4, 7] _, .p 28 (some 105) [4, 8] _, .p 29 (some 106) [4, 9] _, .p 30 (some 107) [9, 10] _] (I := [(10, []), (12, [0]), (13, [1]), (22, []), (23, [3]), (24, [4]), (25, [4, 5]), (26, [4, 6]), (27, [4, 7]), (28, [4, 8]), (29, [4, 9]), (30, [9, 10])]) (nT := 12) rfl rfl rfl (by kernel_rfl) .nil
  · refine (.cons ?_ (.cons ?_ (.cons ?_ (.cons ?_ (.cons ?_ (.cons ?_ (.cons ?_ (.cons ?_ (.cons ?_ (.cons ?_ (.cons ?_ (.cons ?_ .nil))))))))))))
    · apply StepOk.p
      iterate 3 rfl
      intro β σX hσX
      refine sl_str_add rfl rfl rfl rfl (by have := wa (decide (lvl ka < 2)); simp only [List.length_cons, List.length_nil]; omega) ?_
      exact sl_nil ⟨rfl, rfl, rfl, rfl⟩
    · apply StepOk.p
      iterate 3 rfl
      intro β σX hσX
      show SL _ _ _ _ (sput _ (some 87) _) _ _
      refine sl_str_add rfl rfl rfl rfl (by have := wa (decide (lvl ka < 2)); simp only [List.length_append, List.length_cons, List.length_nil]; omega) ?_
      exact sl_nil ⟨rfl, rfl, rfl, rfl⟩
    · apply StepOk.p
      iterate 3 rfl
      intro β σX hσX
      show SL _ _ _ _ (sput _ (some 89) _) _ _
      refine sl_str_add rfl rfl rfl rfl (by have := wa (decide (lvl ka < 2)); simp only [List.length_append, List.length_cons, List.length_nil]; omega) ?_
      exact sl_nil ⟨rfl, rfl, rfl, rfl⟩
    · apply StepOk.p
      iterate 3 rfl
      intro β σX hσX
      refine sl_callp rfl rfl cal_34 ((fun σ => low_is kb nb sb b1 b2 (decide_eq_false hg) σ)) ?_ ?_
      · repeat constructor
      exact sl_nil ⟨rfl, rfl, rfl, rfl⟩
    · apply StepOk.p
      iterate 3 rfl
      intro β σX hσX
      show SL _ _ _ _ (sput _ (some 99) _) _ _
      refine sl_mv rfl rfl rfl ?_
      exact sl_nil ⟨rfl, rfl, rfl, rfl⟩
    · apply StepOk.p
      iterate 3 rfl
      intro β σX hσX
      show SL _ _ _ _ (sput _ (some 100) _) _ _
      refine sl_guard_y rfl rfl rfl (rfl) ?_
      refine sl_mv rfl rfl rfl ?_
      exact sl_nil ⟨rfl, rfl, rfl, rfl⟩
    · apply StepOk.p
      iterate 3 rfl
      intro β σX hσX
      show SL _ _ _ _ (sput (sput _ (some 100) _) (some 101) _) _ _
      refine sl_guard_y rfl rfl rfl (rfl) ?_
      refine sl_nc rfl rfl rfl rfl ?_
      exact sl_nil ⟨rfl, rfl, rfl, rfl⟩
    · apply StepOk.p
      iterate 3 rfl
      intro β σX hσX
      show SL _ _ _ _ (sput (sput _ (some 100) _) (some 102) _) _ _
      refine sl_guard_y rfl rfl rfl (rfl) ?_
      first
        | refine sl_fieldAddr_ptr rfl rfl rfl fo_53_4 ?_
        | refine sl_fieldAddr_rp rfl rfl rfl fo_53_4 ?_
        | refine sl_fieldAddr_ref rfl rfl rfl fo_53_4 ?_
      exact sl_nil ⟨rfl, rfl, rfl, rfl⟩
    · apply StepOk.p
      iterate 3 rfl
      intro β σX hσX
      show SL _ _ _ _ (sput (sput _ (some 100) _) (some 103) _) _ _
      refine sl_guard_y rfl rfl rfl (rfl) ?_
      first
        | refine sl_load_rp1 rfl rfl rfl ag_22 rfl ?_
        | refine sl_load_blk1 rfl rfl rfl ag_22 (hσX _ (by repeat constructor)) rfl ?_
      exact sl_nil ⟨rfl, rfl, rfl, rfl⟩
    · apply StepOk.p
      iterate 3 rfl
      intro β σX hσX
      show SL _ _ _ _ (sput (sput _ (some 100) _) (some 104) _) _ _
      refine sl_guard_y rfl rfl rfl (rfl) ?_
      refine sl_callp rfl rfl cal_35 (high_ok kb nb sb b1 b2) ?_ ?_
      · repeat constructor
      exact sl_nil ⟨rfl, rfl, rfl, rfl⟩
    · apply StepOk.p
      iterate 3 rfl
      intro β σX hσX
      show SL _ _ _ _ (sput (sput _ (some 100) _) (some 105) _) _ _
      refine sl_pk_f rfl rfl rfl (rfl) rfl ?_
      exact sl_nil ⟨rfl, rfl, rfl, rfl⟩
    · apply StepOk.p
      iterate 3 rfl
      intro β σX hσX
      show SL _ _ _ _ (sput (sput _ (some 105) _) (some 106) _) _ _
      refine sl_callp rfl rfl cal_33 (rpart_of (.node kb nb sb b1 b2) (decide (lvl kb = 2)) (by omega) ihb) ?_ ?_
      · repeat constructor
      exact sl_nil ⟨rfl, rfl, rfl, rfl⟩
  refine contT_p (contT_p (contT_p (contT_p (contT_p (contT_p (contT_p (contT_p (contT_p (contT_p (contT_p (contT_p (contT_nil ?_))))))))))))
  refine sa_set 99 (.val (.bool false)) (rfl) ?_
  refine sa_one 31 (by kernel_rfl) rfl ?_
  refine sl_str_add rfl rfl rfl rfl (by have e1 := wa (decide (lvl ka < 2)); have e2 := wb (decide (lvl kb = 2)); simp only [List.length_append, List.length_cons, List.length_nil]; omega) ?_
  refine sl_nil ⟨.nil, ?_⟩
  refine sa_one 32 (by kernel_rfl) rfl ?_
  refine sl_as rfl rfl rfl ?_
  refine sl_nil ⟨.nil, ?_⟩
  refine sa_done (by kernel_rfl) ?_
  refine sw_ret ⟨rfl, _, _, res_one rfl rfl, ?_, ⟨congrArg (fun z => D.val (.str z)) (bin_high (high_three hg) ⟨rfl, by decide, rfl⟩), rfl⟩⟩
  repeat constructor

theorem rexpr_5 (ka na kb nb : Int) (sa sb : Txt) (a1 a2 b1 b2 : Ex) (ha : (prE (.node ka na sa a1 a2)).length ≤ 10000) (hb : (prE (.node kb nb sb b1 b2)).length ≤ 10000)
    (iha : ∀ σ, FSpec Tryd.prog 12 [.val (exV (.node ka na sa a1 a2))] σ (fun d σ' => d = .val (.str (prE (.node ka na sa a1 a2))) ∧ σ' = σ)) (ihb : ∀ σ, FSpec Tryd.prog 12 [.val (exV (.node kb nb sb b1 b2))] σ (fun d σ' => d = .val (.str (prE (.node kb nb sb b1 b2))) ∧ σ' = σ)) (σ : List Chunk) :
    FSpec Tryd.prog 12 [.val (.ref (.agg [.int .i64 5, .int .i64 0, .str [], .ref (.agg [.int .i64 ka, .int .i64 na, .str sa, exV a1, exV a2]), .ref (.agg [.int .i64 kb, .int .i64 nb, .str sb, exV b1, exV b2])]))] σ (fun d σ' => d = .val (.str (prE (.node 5 0 [] (.node ka na sa a1 a2) (.node kb nb sb b1 b2)))) ∧ σ' = σ) := by
  have wa := fun x => wrap_len x (prE (.node ka na sa a1 a2))
  have wb := fun x => wrap_len x (prE (.node kb nb sb b1 b2))
  have hlr := lvl_range ka
  refine spec_of_sw Tryd.func12 rfl ?_
  refine sw_seq ?_
  refine sl_region ?_
  refine sl_as rfl rfl rfl ?_
  refine sl_nil ?_
  refine sw_seq ?_
  refine sw_seq ?_
  refine sl_region ?_
  refine sl_mv rfl rfl rfl ?_
  refine sl_nc rfl rfl rfl rfl ?_
  first
    | refine sl_fieldAddr_ptr rfl rfl rfl fo_53_0 ?_
    | refine sl_fieldAddr_rp rfl rfl rfl fo_53_0 ?_
    | refine sl_fieldAddr_ref rfl rfl rfl fo_53_0 ?_
  first
    | refine sl_load_rp1 rfl rfl rfl ag_3 rfl ?_
    | refine sl_load_blk1 rfl rfl rfl ag_3 (by repeat constructor) rfl ?_
  refine sl_nil ?_
  refine sw_block ?_
  refine sw_seq ?_
  refine sl_region ?_
  refine sl_bin rfl rfl rfl rfl rfl ?_
  refine sl_as rfl rfl rfl ?_
  refine sl_nil ?_
  refine sw_false rfl (rfl) ?_
  refine sw_seq ?_
  refine sl_region ?_
  refine sl_bin rfl rfl rfl rfl rfl ?_
  refine sl_as rfl rfl rfl ?_
  refine sl_nil ?_
  refine sw_false rfl (rfl) ?_
  refine sw_seq ?_
  refine sl_region ?_
  refine sl_bin rfl rfl rfl rfl rfl ?_
  refine sl_as rfl rfl rfl ?_
  refine sl_nil ?_
  refine sw_false rfl (rfl) ?_
  refine sw_skip ?_
  refine sw_seq ?_
  refine sl_region ?_
  refine sl_bs1 rfl rfl (.cons rfl (.cons rfl (.cons rfl (.cons rfl (.cons rfl .nil))))) u_57 sz_9 zs_9 (by decide) rfl rfl rfl rfl ?_
  refine sl_mv rfl rfl rfl ?_
  refine sl_nc rfl rfl rfl rfl ?_
  first
    | refine sl_fieldAddr_ptr rfl rfl rfl fo_53_0 ?_
    | refine sl_fieldAddr_rp rfl rfl rfl fo_53_0 ?_
    | refine sl_fieldAddr_ref rfl rfl rfl fo_53_0 ?_
  first
    | refine sl_load_rp1 rfl rfl rfl ag_3 rfl ?_
    | refine sl_load_blk1 rfl rfl rfl ag_3 (by repeat constructor) rfl ?_
  first
    | refine sl_sub_ rfl rfl rfl rfl (by constructor <;> omega) ?_
    | refine sl_bin rfl rfl rfl rfl rfl ?_
  refine sl_indexAddr' rfl rfl rfl rfl u_57 sz_9 (by decide) rfl rfl ?_
  first
    | refine sl_load_rp1 rfl rfl rfl ag_9 rfl ?_
    | refine sl_load_blk1 rfl rfl rfl ag_9 (by repeat constructor) rfl ?_
  refine sl_as rfl rfl rfl ?_
  refine sl_nil ?_
  refine sw_seq ?_
  refine sw_seq ?_
  refine sl_region ?_
  refine sl_mv rfl rfl rfl ?_
  refine sl_callp rfl rfl cal_34 (low_ok 5 0 [] (.node ka na sa a1 a2) (.node kb nb sb b1 b2)) ?_ ?_
  · repeat constructor
  refine sl_nil ?_
  refine sw_false rfl (rfl) ?_
  by_cases hg : lvl kb < 2
  · refine sw_skip ?_
    refine sw_seq ?_
    refine sa_start [] mixed ?_
    refine sa_take 0 rfl rfl (by kernel_rfl) .nil (pu_mv rfl rfl) ?_
    refine sa_take 1 rfl rfl (by kernel_rfl) .nil (pu_nc rfl rfl rfl) ?_
    first
      | refine sa_take 2 rfl rfl (by kernel_rfl) .nil (pu_fieldAddr_ptr rfl rfl fo_53_3) ?_
      | refine sa_take 2 rfl rfl (by kernel_rfl) .nil (pu_fieldAddr_rp rfl rfl fo_53_3) ?_
      | refine sa_take 2 rfl rfl (by kernel_rfl) .nil (pu_fieldAddr_ref rfl rfl fo_53_3) ?_
    refine sa_take 3 rfl rfl (by kernel_rfl) .nil (pu_load_rp1 rfl rfl ag_22 rfl) ?_
    refine sa_take 4 rfl rfl (by kernel_rfl) .nil (pu_mv rfl rfl) ?_
    refine sa_take 5 rfl rfl (by kernel_rfl) .nil (pu_nc rfl rfl rfl) ?_
    first
      | refine sa_take 6 rfl rfl (by kernel_rfl) .nil (pu_fieldAddr_ptr rfl rfl fo_53_3) ?_
      | refine sa_take 6 rfl rfl (by kernel_rfl) .nil (pu_fieldAddr_rp rfl rfl fo_53_3) ?_
      | refine sa_take 6 rfl rfl (by kernel_rfl) .nil (pu_fieldAddr_ref rfl rfl fo_53_3) ?_
    refine sa_take 7 rfl rfl (by kernel_rfl) .nil (pu_load_rp1 rfl rfl ag_22 rfl) ?_
    refine sa_take 11 rfl rfl (by kernel_rfl) .nil (pu_mv rfl rfl) ?_
    refine sa_take 14 rfl rfl (by kernel_rfl) .nil (pu_mv rfl rfl) ?_
    refine sa_take 15 rfl rfl (by kernel_rfl) .nil (pu_nc rfl rfl rfl) ?_
    first
      | refine sa_take 16 rfl rfl (by kernel_rfl) .nil (pu_fieldAddr_ptr rfl rfl fo_53_4) ?_
      | refine sa_take 16 rfl rfl (by kernel_rfl) .nil (pu_fieldAddr_rp rfl rfl fo_53_4) ?_
      | refine sa_take 16 rfl rfl (by kernel_rfl) .nil (pu_fieldAddr_ref rfl rfl fo_53_4) ?_
    refine sa_take 17 rfl rfl (by kernel_rfl) .nil (pu_load_rp1 rfl rfl ag_22 rfl) ?_
    refine sa_take 18 rfl rfl (by kernel_rfl) .nil (pu_mv rfl rfl) ?_
    refine sa_take 19 rfl rfl (by kernel_rfl) .nil (pu_nc rfl rfl rfl) ?_
    first
      | refine sa_take 20 rfl rfl (by kernel_rfl) .nil (pu_fieldAddr_ptr rfl rfl fo_53_4) ?_
      | refine sa_take 20 rfl rfl (by kernel_rfl) .nil (pu_fieldAddr_rp rfl rfl fo_53_4) ?_
      | refine sa_take 20 rfl rfl (by kernel_rfl) .nil (pu_fieldAddr_ref rfl rfl fo_53_4) ?_
    refine sa_take 21 rfl rfl (by kernel_rfl) .nil (pu_load_rp1 rfl rfl ag_22 rfl) ?_
    refine sa_one 8 (by kernel_rfl) rfl ?_
    refine sl_callp rfl rfl cal_34 (low_ok ka na sa a1 a2) ?_ ?_
    · repeat constructor
    refine sl_nil ⟨.nil, ?_⟩
    refine sa_one 9 (by kernel_rfl) rfl ?_
    refine sl_callp rfl rfl cal_33 (rpart_of (.node ka na sa a1 a2) (decide (lvl ka < 2)) (by omega) iha) ?_ ?_
    · repeat constructor
    refine sl_nil ⟨.nil, ?_⟩
    apply sa_conf [.p 10 (some 87) [] _, .p 12 (some 89) [0] _, .p 13 (some 90) [1] _, .p 22 (some 99) [] _, .p 23 (some 100) [3] _, .p 24 (some 101) [4] _, .p 25 (some 102) [4, 5] _, .p 26 (some 103) [4, 6] _, .p 27 (some 104) [4, 7] _, .p 28 (some 105) [4, 8] _, .p 29 (some 106) [4, 9] _, .p 30 (some 107) [9, 10] _] (I := [(10, []), (12, [0]), (13, [1]), (22, []), (23, [3]), (24, [4]), (25, [4, 5]), (26, [4, 6]), (27, [4, 7]), (28, [4, 8]), (29, [4, 9]), (30, [9, 10])]) (nT := 12) rfl rfl rfl (by kernel_rfl) .nil
    · refine (.cons ?_ (.cons ?_ (.cons ?_ (.cons ?_ (.cons ?_ (.cons ?_ (.cons ?_ (.cons ?_ (.cons ?_ (.cons ?_ (.cons ?_ (.cons ?_ .nil))))))))))))
      · apply StepOk.p
        iterate 3 rfl
        intro β σX hσX
        refine sl_str_add rfl rfl rfl rfl (by have := wa (decide (lvl ka < 2)); simp only [List.length_cons, List.length_nil]; omega) ?_
        exact sl_nil ⟨rfl, rfl, rfl, rfl⟩
      · apply StepOk.p
        iterate 3 rfl
        intro β σX hσX
        show SL _ _ _ _ (sput _ (some 87) _) _ _
        refine sl_str_add rfl rfl rfl rfl (by have := wa (decide (lvl ka < 2)); simp only [List.length_append, List.length_cons, List.length_nil]; omega) ?_
        exact sl_nil ⟨rfl, rfl, rfl, rfl⟩
      · apply StepOk.p
        iterate 3 rfl
        intro β σX hσX
        show SL _ _ _ _ (sput _ (some 89) _) _ _
        refine sl_str_add rfl rfl rfl rfl (by have := wa (decide (lvl ka < 2)); simp only [List.length_append, List.length_cons, List.length_nil]; omega) ?_
        exact sl_nil ⟨rfl, rfl, rfl, rfl⟩
      · apply StepOk.p
        iterate 3 rfl
        intro β σX hσX
        refine sl_callp rfl rfl cal_34 ((fun σ => low_is kb nb sb b1 b2 (decide_eq_true hg) σ)) ?_ ?_
        · repeat constructor
        exact sl_nil ⟨rfl, rfl, rfl, rfl⟩
      · apply StepOk.p
        iterate 3 rfl
        intro β σX hσX
        show SL _ _ _ _ (sput _ (some 99) _) _ _
        refine sl_mv rfl rfl rfl ?_
        exact sl_nil ⟨rfl, rfl, rfl, rfl⟩
      · apply StepOk.p
        iterate 3 rfl
        intro β σX hσX
        show SL _ _ _ _ (sput _ (some 100) _) _ _
        refine sl_guard_n rfl rfl rfl (rfl) ?_
        exact sl_nil ⟨rfl, rfl, rfl, rfl⟩
      · apply StepOk.p
        iterate 3 rfl
        intro β σX hσX
        show SL _ _ _ _ (sput (sput _ (some 100) _) (some 101) _) _ _
        refine sl_guard_n rfl rfl rfl (rfl) ?_
        exact sl_nil ⟨rfl, rfl, rfl, rfl⟩
      · apply StepOk.p
        iterate 3 rfl
        intro β σX hσX
        show SL _ _ _ _ (sput (sput _ (some 100) _) (some 102) _) _ _
        refine sl_guard_n rfl rfl rfl (rfl) ?_
        exact sl_nil ⟨rfl, rfl, rfl, rfl⟩
      · apply StepOk.p
        iterate 3 rfl
        intro β σX hσX
        show SL _ _ _ _ (sput (sput _ (some 100) _) (some 103) _) _ _
        refine sl_guard_n rfl rfl rfl (rfl) ?_
        exact sl_nil ⟨rfl, rfl, rfl, rfl⟩
      · apply StepOk.p
        iterate 3 rfl
        intro β σX hσX
        show SL _ _ _ _ (sput (sput _ (some 100) _) (some 104) _) _ _
        refine sl_guard_n rfl rfl rfl (rfl) ?_
        exact sl_nil ⟨rfl, rfl, rfl, rfl⟩
      · apply StepOk.p
        iterate 3 rfl
        intro β σX hσX
        show SL _ _ _ _ (sput (sput _ (some 100) _) (some 105) _) _ _
        refine sl_pk_t rfl rfl rfl (rfl) rfl ?_
        exact sl_nil ⟨rfl, rfl, rfl, rfl⟩
      · apply StepOk.p
        iterate 3 rfl
        intro β σX hσX
        show SL _ _ _ _ (sput (sput _ (some 105) _) (some 106) _) _ _
        refine sl_callp rfl rfl cal_33 (rpart_of (.node kb nb sb b1 b2) true (by omega) ihb) ?_ ?_
        · repeat constructor
        exact sl_nil ⟨rfl, rfl, rfl, rfl⟩
    refine contT_p (contT_p (contT_p (contT_p (contT_p (contT_p (contT_p (contT_p (contT_p (contT_p (contT_p (contT_p (contT_nil ?_))))))))))))
    refine sa_set 99 (.val (.bool true)) (rfl) ?_
    refine sa_one 31 (by kernel_rfl) rfl ?_
    refine sl_str_add rfl rfl rfl rfl (by have e1 := wa (decide (lvl ka < 2)); have e2 := wb true; simp only [List.length_append, List.length_cons, List.length_nil]; omega) ?_
    refine sl_nil ⟨.nil, ?_⟩
    refine sa_one 32 (by kernel_rfl) rfl ?_
    refine sl_as rfl rfl rfl ?_
    refine sl_nil ⟨.nil, ?_⟩
    refine sa_done (by kernel_rfl) ?_
    refine sw_ret ⟨rfl, _, _, res_one rfl rfl, ?_, ⟨congrArg (fun z => D.val (.str z)) (bin_high (decide_eq_true (by omega)).symm ⟨rfl, by decide, rfl⟩), rfl⟩⟩
    repeat constructor
  refine sw_skip ?_
  refine sw_seq ?_
  refine sa_start [] mixed ?_
  refine sa_take 0 rfl rfl (by kernel_rfl) .nil (pu_mv rfl rfl) ?_
  refine sa_take 1 rfl rfl (by kernel_rfl) .nil (pu_nc rfl rfl rfl) ?_
  first
    | refine sa_take 2 rfl rfl (by kernel_rfl) .nil (pu_fieldAddr_ptr rfl rfl fo_53_3) ?_
    | refine sa_take 2 rfl rfl (by kernel_rfl) .nil (pu_fieldAddr_rp rfl rfl fo_53_3) ?_
    | refine sa_take 2 rfl rfl (by kernel_rfl) .nil (pu_fieldAddr_ref rfl rfl fo_53_3) ?_
  refine sa_take 3 rfl rfl (by kernel_rfl) .nil (pu_load_rp1 rfl rfl ag_22 rfl) ?_
  refine sa_take 4 rfl rfl (by kernel_rfl) .nil (pu_mv rfl rfl) ?_
  refine sa_take 5 rfl rfl (by kernel_rfl) .nil (pu_nc rfl rfl rfl) ?_
  first
    | refine sa_take 6 rfl rfl (by kernel_rfl) .nil (pu_fieldAddr_ptr rfl rfl fo_53_3) ?_
    | refine sa_take 6 rfl rfl (by kernel_rfl) .nil (pu_fieldAddr_rp rfl rfl fo_53_3) ?_
    | refine sa_take 6 rfl rfl (by kernel_rfl) .nil (pu_fieldAddr_ref rfl rfl fo_53_3) ?_
  refine sa_take 7 rfl rfl (by kernel_rfl) .nil (pu_load_rp1 rfl rfl ag_22 rfl) ?_
  refine sa_take 11 rfl rfl (by kernel_rfl) .nil (pu_mv rfl rfl) ?_
  refine sa_take 14 rfl rfl (by kernel_rfl) .nil (pu_mv rfl rfl) ?_
  refine sa_take 15 rfl rfl (by kernel_rfl) .nil (pu_nc rfl rfl rfl) ?_
  first
    | refine sa_take 16 rfl rfl (by kernel_rfl) .nil (pu_fieldAddr_ptr rfl rfl fo_53_4) ?_
    | refine sa_take 16 rfl rfl (by kernel_rfl) .nil (pu_fieldAddr_rp rfl rfl fo_53_4) ?_
    | refine sa_take 16 rfl rfl (by kernel_rfl) .nil (pu_fieldAddr_ref rfl rfl fo_53_4) ?_
  refine sa_take 17 rfl rfl (by kernel_rfl) .nil (pu_load_rp1 rfl rfl ag_22 rfl) ?_
  refine sa_take 18 rfl rfl (by kernel_rfl) .nil (pu_mv rfl rfl) ?_
  refine sa_take 19 rfl rfl (by kernel_rfl) .nil (pu_nc rfl rfl rfl) ?_
  first
    | refine sa_take 20 rfl rfl (by kernel_rfl) .nil (pu_fieldAddr_ptr rfl rfl fo_53_4) ?_
    | refine sa_take 20 rfl rfl (by kernel_rfl) .nil (pu_fieldAddr_rp rfl rfl fo_53_4) ?_
    | refine sa_take 20 rfl rfl (by kernel_rfl) .nil (pu_fieldAddr_ref rfl rfl fo_53_4) ?_
  refine sa_take 21 rfl rfl (by kernel_rfl) .nil (pu_load_rp1 rfl rfl ag_22 rfl) ?_
  refine sa_one 8 (by kernel_rfl) rfl ?_
  refine sl_callp rfl rfl cal_34 (low_ok ka na sa a1 a2) ?_ ?_
  · repeat constructor
  refine sl_nil ⟨.nil, ?_⟩
  refine sa_one 9 (by kernel_rfl) rfl ?_
  refine sl_callp rfl rfl cal_33 (rpart_of (.node ka na sa a1 a2) (decide (lvl ka < 2)) (by omega) iha) ?_ ?_
  · repeat constructor
  refine sl_nil ⟨.nil, ?_⟩
  apply sa_conf [.p 10 (some 87) [] _, .p 12 (some 89) [0] _, .p 13 (some 90) [1] _, .p 22 (some 99) [] _, .p 23 (some 100) [3] _, .p 24 (some 101) [4] _, .p 25 (some 102) [4, 5] _, .p 26 (some 103) [4, 6] _, .p 27 (some 104) [4, 7] _, .p 28 (some 105) [4, 8] _, .p 29 (some 106) [4, 9] _, .p 30 (some 107) [9, 10] _] (I := [(10, []), (12, [0]), (13, [1]), (22, []), (23, [3]), (24, [4]), (25, [4, 5]), (26, [4, 6]), (27, [4, 7]), (28, [4, 8]), (29, [4, 9]), (30, [9, 10])]) (nT := 12) rfl rfl rfl (by kernel_rfl) .nil
  · refine (.cons ?_ (.cons ?_ (.cons ?_ (.cons ?_ (.cons ?_ (.cons ?_ (.cons ?_ (.cons ?_ (.cons ?_ (.cons ?_ (.cons ?_ (.cons ?_ .nil))))))))))))
    · apply StepOk.p
      iterate 3 rfl
      intro β σX hσX
      refine sl_str_add rfl rfl rfl rfl (by have := wa (decide (lvl ka < 2)); simp only [List.length_cons, List.length_nil]; omega) ?_
      exact sl_nil ⟨rfl, rfl, rfl, rfl⟩
    · apply StepOk.p
      iterate 3 rfl
      intro β σX hσX
      show SL _ _ _ _ (sput _ (some 87) _) _ _
      refine sl_str_add rfl rfl rfl rfl (by have := wa (decide (lvl ka < 2)); simp only [List.length_append, List.length_cons, List.length_nil]; omega) ?_
      exact sl_nil ⟨rfl, rfl, rfl, rfl⟩
    · apply StepOk.p
      iterate 3 rfl
      intro β σX hσX
      show SL _ _ _ _ (sput _ (some 89) _) _ _
      refine sl_str_add rfl rfl rfl rfl (by have := wa (decide (lvl ka < 2)); simp only [List.length_append, List.length_cons, List.length_nil]; omega) ?_
      exact sl_nil ⟨rfl, rfl, rfl, rfl⟩
    · apply StepOk.p
      iterate 3 rfl
      intro β σX hσX
      refine sl_callp rfl rfl cal_34 ((fun σ => low_is kb nb sb b1 b2 (decide_eq_false hg) σ)) ?_ ?_
      · repeat constructor
      exact sl_nil ⟨rfl, rfl, rfl, rfl⟩
    · apply StepOk.p
      iterate 3 rfl
      intro β σX hσX
      show SL _ _ _ _ (sput _ (some 99) _) _ _
      refine sl_mv rfl rfl rfl ?_
      exact sl_nil ⟨rfl, rfl, rfl, rfl⟩
    · apply StepOk.p
      iterate 3 rfl
      intro β σX hσX
      show SL _ _ _ _ (sput _ (some 100) _) _ _
      refine sl_guard_y rfl rfl rfl (rfl) ?_
      refine sl_mv rfl rfl rfl ?_
      exact sl_nil ⟨rfl, rfl, rfl, rfl⟩
    · apply StepOk.p
      iterate 3 rfl
      intro β σX hσX
      show SL _ _ _ _ (sput (sput _ (some 100) _) (some 101) _) _ _
      refine sl_guard_y rfl rfl rfl (rfl) ?_
      refine sl_nc rfl rfl rfl rfl ?_
      exact sl_nil ⟨rfl, rfl, rfl, rfl⟩
    · apply StepOk.p
      iterate 3 rfl
      intro β σX hσX
      show SL _ _ _ _ (sput (sput _ (some 100) _) (some 102) _) _ _
      refine sl_guard_y rfl rfl rfl (rfl) ?_
      first
        | refine sl_fieldAddr_ptr rfl rfl rfl fo_53_4 ?_
        | refine sl_fieldAddr_rp rfl rfl rfl fo_53_4 ?_
        | refine sl_fieldAddr_ref rfl rfl rfl fo_53_4 ?_
      exact sl_nil ⟨rfl, rfl, rfl, rfl⟩
    · apply StepOk.p
      iterate 3 rfl
      intro β σX hσX
      show SL _ _ _ _ (sput (sput _ (some 100) _) (some 103) _) _ _
      refine sl_guard_y rfl rfl rfl (rfl) ?_
      first
        | refine sl_load_rp1 rfl rfl rfl ag_22 rfl ?_
        | refine sl_load_blk1 rfl rfl rfl ag_22 (hσX _ (by repeat constructor)) rfl ?_
      exact sl_nil ⟨rfl, rfl, rfl, rfl⟩
    · apply StepOk.p
      iterate 3 rfl
      intro β σX hσX
      show SL _ _ _ _ (sput (sput _ (some 100) _) (some 104) _) _ _
      refine sl_guard_y rfl rfl rfl (rfl) ?_
      refine sl_callp rfl rfl cal_35 (high_ok kb nb sb b1 b2) ?_ ?_
      · repeat constructor
      exact sl_nil ⟨rfl, rfl, rfl, rfl⟩
    · apply StepOk.p
      iterate 3 rfl
      intro β σX hσX
      show SL _ _ _ _ (sput (sput _ (some 100) _) (some 105) _) _ _
      refine sl_pk_f rfl rfl rfl (rfl) rfl ?_
      exact sl_nil ⟨rfl, rfl, rfl, rfl⟩
    · apply StepOk.p
      iterate 3 rfl
      intro β σX hσX
      show SL _ _ _ _ (sput (sput _ (some 105) _) (some 106) _) _ _
      refine sl_callp rfl rfl cal_33 (rpart_of (.node kb nb sb b1 b2) (decide (lvl kb = 2)) (by omega) ihb) ?_ ?_
      · repeat constructor
      exact sl_nil ⟨rfl, rfl, rfl, rfl⟩
  refine contT_p (contT_p (contT_p (contT_p (contT_p (contT_p (contT_p (contT_p (contT_p (contT_p (contT_p (contT_p (contT_nil ?_))))))))))))
  refine sa_set 99 (.val (.bool false)) (rfl) ?_
  refine sa_one 31 (by kernel_rfl) rfl ?_
  refine sl_str_add rfl rfl rfl rfl (by have e1 := wa (decide (lvl ka < 2)); have e2 := wb (decide (lvl kb = 2)); simp only [List.length_append, List.length_cons, List.length_nil]; omega) ?_
  refine sl_nil ⟨.nil, ?_⟩
  refine sa_one 32 (by kernel_rfl) rfl ?_
  refine sl_as rfl rfl rfl ?_
  refine sl_nil ⟨.nil, ?_⟩
  refine sa_done (by kernel_rfl) ?_
  refine sw_ret ⟨rfl, _, _, res_one rfl rfl, ?_, ⟨congrArg (fun z => D.val (.str z)) (bin_high (high_three hg) ⟨rfl, by decide, rfl⟩), rfl⟩⟩
  repeat constructor

theorem rexpr_6 (ka na kb nb : Int) (sa sb : Txt) (a1 a2 b1 b2 : Ex) (ha : (prE (.node ka na sa a1 a2)).length ≤ 10000) (hb : (prE (.node kb nb sb b1 b2)).length ≤ 10000)
    (iha : ∀ σ, FSpec Tryd.prog 12 [.val (exV (.node ka na sa a1 a2))] σ (fun d σ' => d = .val (.str (prE (.node ka na sa a1 a2))) ∧ σ' = σ)) (ihb : ∀ σ, FSpec Tryd.prog 12 [.val (exV (.node kb nb sb b1 b2))] σ (fun d σ' => d = .val (.str (prE (.node kb nb sb b1 b2))) ∧ σ' = σ)) (σ : List Chunk) :
    FSpec Tryd.prog 12 [.val (.ref (.agg [.int .i64 6, .int .i64 0, .str [], .ref (.agg [.int .i64 ka, .int .i64 na, .str sa, exV a1, exV a2]), .ref (.agg [.int .i64 kb, .int .i64 nb, .str sb, exV b1, exV b2])]))] σ (fun d σ' => d = .val (.str (prE (.node 6 0 [] (.node ka na sa a1 a2) (.node kb nb sb b1 b2)))) ∧ σ' = σ) := by
  have wa := fun x => wrap_len x (prE (.node ka na sa a1 a2))
  have wb := fun x => wrap_len x (prE (.node kb nb sb b1 b2))
  have hlr := lvl_range ka
  refine spec_of_sw Tryd.func12 rfl ?_
  refine sw_seq ?_
  refine sl_region ?_
  refine sl_as rfl rfl rfl ?_
  refine sl_nil ?_
  refine sw_seq ?_
  refine sw_seq ?_
  refine sl_region ?_
  refine sl_mv rfl rfl rfl ?_
  refine sl_nc rfl rfl rfl rfl ?_
  first
    | refine sl_fieldAddr_ptr rfl rfl rfl fo_53_0 ?_
    | refine sl_fieldAddr_rp rfl rfl rfl fo_53_0 ?_
    | refine sl_fieldAddr_ref rfl rfl rfl fo_53_0 ?_
  first
    | refine sl_load_rp1 rfl rfl rfl ag_3 rfl ?_
    | refine sl_load_blk1 rfl rfl rfl ag_3 (by repeat constructor) rfl ?_
  refine sl_nil ?_
  refine sw_block ?_
  refine sw_seq ?_
  refine sl_region ?_
  refine sl_bin rfl rfl rfl rfl rfl ?_
  refine sl_as rfl rfl rfl ?_
  refine sl_nil ?_
  refine sw_false rfl (rfl) ?_
  refine sw_seq ?_
  refine sl_region ?_
  refine sl_bin rfl rfl rfl rfl rfl ?_
  refine sl_as rfl rfl rfl ?_
  refine sl_nil ?_
  refine sw_false rfl (rfl) ?_
  refine sw_seq ?_
  refine sl_region ?_
  refine sl_bin rfl rfl rfl rfl rfl ?_
  refine sl_as rfl rfl rfl ?_
  refine sl_nil ?_
  refine sw_false rfl (rfl) ?_
  refine sw_skip ?_
  refine sw_seq ?_
  refine sl_region ?_
  refine sl_bs1 rfl rfl (.cons rfl (.cons rfl (.cons rfl (.cons rfl (.cons rfl .nil))))) u_57 sz_9 zs_9 (by decide) rfl rfl rfl rfl ?_
  refine sl_mv rfl rfl rfl ?_
  refine sl_nc rfl rfl rfl rfl ?_
  first
    | refine sl_fieldAddr_ptr rfl rfl rfl fo_53_0 ?_
    | refine sl_fieldAddr_rp rfl rfl rfl fo_53_0 ?_
    | refine sl_fieldAddr_ref rfl rfl rfl fo_53_0 ?_
  first
    | refine sl_load_rp1 rfl rfl rfl ag_3 rfl ?_
    | refine sl_load_blk1 rfl rfl rfl ag_3 (by repeat constructor) rfl ?_
  first
    | refine sl_sub_ rfl rfl rfl rfl (by constructor <;> omega) ?_
    | refine sl_bin rfl rfl rfl rfl rfl ?_
  refine sl_indexAddr' rfl rfl rfl rfl u_57 sz_9 (by decide) rfl rfl ?_
  first
    | refine sl_load_rp1 rfl rfl rfl ag_9 rfl ?_
    | refine sl_load_blk1 rfl rfl rfl ag_9 (by repeat constructor) rfl ?_
  refine sl_as rfl rfl rfl ?_
  refine sl_nil ?_
  refine sw_seq ?_
  refine sw_seq ?_
  refine sl_region ?_
  refine sl_mv rfl rfl rfl ?_
  refine sl_callp rfl rfl cal_34 (low_ok 6 0 [] (.node ka na sa a1 a2) (.node kb nb sb b1 b2)) ?_ ?_
  · repeat constructor
  refine sl_nil ?_
  refine sw_false rfl (rfl) ?_
  by_cases hg : lvl kb < 2
  · refine sw_skip ?_
    refine sw_seq ?_
    refine sa_start [] mixed ?_
    refine sa_take 0 rfl rfl (by kernel_rfl) .nil (pu_mv rfl rfl) ?_
    refine sa_take 1 rfl rfl (by kernel_rfl) .nil (pu_nc rfl rfl rfl) ?_
    first
      | refine sa_take 2 rfl rfl (by kernel_rfl) .nil (pu_fieldAddr_ptr rfl rfl fo_53_3) ?_
      | refine sa_take 2 rfl rfl (by kernel_rfl) .nil (pu_fieldAddr_rp rfl rfl fo_53_3) ?_
      | refine sa_take 2 rfl rfl (by kernel_rfl) .nil (pu_fieldAddr_ref rfl rfl fo_53_3) ?_
    refine sa_take 3 rfl rfl (by kernel_rfl) .nil (pu_load_rp1 rfl rfl ag_22 rfl) ?_
    refine sa_take 4 rfl rfl (by kernel_rfl) .nil (pu_mv rfl rfl) ?_
    refine sa_take 5 rfl rfl (by kernel_rfl) .nil (pu_nc rfl rfl rfl) ?_
    first
      | refine sa_take 6 rfl rfl (by kernel_rfl) .nil (pu_fieldAddr_ptr rfl rfl fo_53_3) ?_
      | refine sa_take 6 rfl rfl (by kernel_rfl) .nil (pu_fieldAddr_rp rfl rfl fo_53_3) ?_
      | refine sa_take 6 rfl rfl (by kernel_rfl) .nil (pu_fieldAddr_ref rfl rfl fo_53_3) ?_
    refine sa_take 7 rfl rfl (by kernel_rfl) .nil (pu_load_rp1 rfl rfl ag_22 rfl) ?_
    refine sa_take 11 rfl rfl (by kernel_rfl) .nil (pu_mv rfl rfl) ?_
    refine sa_take 14 rfl rfl (by kernel_rfl) .nil (pu_mv rfl rfl) ?_
    refine sa_take 15 rfl rfl (by kernel_rfl) .nil (pu_nc rfl rfl rfl) ?_
    first
      | refine sa_take 16 rfl rfl (by kernel_rfl) .nil (pu_fieldAddr_ptr rfl rfl fo_53_4) ?_
      | refine sa_take 16 rfl rfl (by kernel_rfl) .nil (pu_fieldAddr_rp rfl rfl fo_53_4) ?_
      | refine sa_take 16 rfl rfl (by kernel_rfl) .nil (pu_fieldAddr_ref rfl rfl fo_53_4) ?_
    refine sa_take 17 rfl rfl (by kernel_rfl) .nil (pu_load_rp1 rfl rfl ag_22 rfl) ?_
    refine sa_take 18 rfl rfl (by kernel_rfl) .nil (pu_mv rfl rfl) ?_
    refine sa_take 19 rfl rfl (by kernel_rfl) .nil (pu_nc rfl rfl rfl) ?_
    first
      | refine sa_take 20 rfl rfl (by kernel_rfl) .nil (pu_fieldAddr_ptr rfl rfl fo_53_4) ?_
      | refine sa_take 20 rfl rfl (by kernel_rfl) .nil (pu_fieldAddr_rp rfl rfl fo_53_4) ?_
      | refine sa_take 20 rfl rfl (by kernel_rfl) .nil (pu_fieldAddr_ref rfl rfl fo_53_4) ?_
    refine sa_take 21 rfl rfl (by kernel_rfl) .nil (pu_load_rp1 rfl rfl ag_22 rfl) ?_
    refine sa_one 8 (by kernel_rfl) rfl ?_
    refine sl_callp rfl rfl cal_34 (low_ok ka na sa a1 a2) ?_ ?_
    · repeat constructor
    refine sl_nil ⟨.nil, ?_⟩
    refine sa_one 9 (by kernel_rfl) rfl ?_
    refine sl_callp rfl rfl cal_33 (rpart_of (.node ka na sa a1 a2) (decide (lvl ka < 2)) (by omega) iha) ?_ ?_
    · repeat constructor
    refine sl_nil ⟨.nil, ?_⟩
    apply sa_conf [.p 10 (some 87) [] _, .p 12 (some 89) [0] _, .p 13 (some 90) [1] _, .p 22 (some 99) [] _, .p 23 (some 100) [3] _, .p 24 (some 101) [4] _, .p 25 (some 102) [4, 5] _, .p 26 (some 103) [4, 6] _, .p 27 (some 104) [4, 7] _, .p 28 (some 105) [4, 8] _, .p 29 (some 106) [4, 9] _, .p 30 (some 107) [9, 10] _] (I := [(10, []), (12, [0]), (13, [1]), (22, []), (23, [3]), (24, [4]), (25, [4, 5]), (26, [4, 6]), (27, [4, 7]), (28, [4, 8]), (29, [4, 9]), (30, [9, 10])]) (nT := 12) rfl rfl rfl (by kernel_rfl) .nil
    · refine (.cons ?_ (.cons ?_ (.cons ?_ (.cons ?_ (.cons ?_ (.cons ?_ (.cons ?_ (.cons ?_ (.cons ?_ (.cons ?_ (.cons ?_ (.cons ?_ .nil))))))))))))
      · apply StepOk.p
        iterate 3 rfl
        intro β σX hσX
        refine sl_str_add rfl rfl rfl rfl (by have := wa (decide (lvl ka < 2)); simp only [List.length_cons, List.length_nil]; omega) ?_
        exact sl_nil ⟨rfl, rfl, rfl, rfl⟩
      · apply StepOk.p
        iterate 3 rfl
        intro β σX hσX
        show SL _ _ _ _ (sput _ (some 87) _) _ _
        refine sl_str_add rfl rfl rfl rfl (by have := wa (decide (lvl ka < 2)); simp only [List.length_append, List.length_cons, List.length_nil]; omega) ?_
        exact sl_nil ⟨rfl, rfl, rfl, rfl⟩
      · apply StepOk.p
        iterate 3 rfl
        intro β σX hσX
        show SL _ _ _ _ (sput _ (some 89) _) _ _
        refine sl_str_add rfl rfl rfl rfl (by have := wa (decide (lvl ka < 2)); simp only [List.length_append, List.length_cons, List.length_nil]; omega) ?_
        exact sl_nil ⟨rfl, rfl, rfl, rfl⟩
      · apply StepOk.p
        iterate 3 rfl
        intro β σX hσX
        refine sl_callp rfl rfl cal_34 ((fun σ => low_is kb nb sb b1 b2 (decide_eq_true hg) σ)) ?_ ?_
        · repeat constructor
        exact sl_nil ⟨rfl, rfl, rfl, rfl⟩
      · apply StepOk.p
        iterate 3 rfl
        intro β σX hσX
        show SL _ _ _ _ (sput _ (some 99) _) _ _
        refine sl_mv rfl rfl rfl ?_
        exact sl_nil ⟨rfl, rfl, rfl, rfl⟩
      · apply StepOk.p
        iterate 3 rfl
        intro β σX hσX
        show SL _ _ _ _ (sput _ (some 100) _) _ _
        refine sl_guard_n rfl rfl rfl (rfl) ?_
        exact sl_nil ⟨rfl, rfl, rfl, rfl⟩
      · apply StepOk.p
        iterate 3 rfl
        intro β σX hσX
        show SL _ _ _ _ (sput (sput _ (some 100) _) (some 101) _) _ _
        refine sl_guard_n rfl rfl rfl (rfl) ?_
        exact sl_nil ⟨rfl, rfl, rfl, rfl⟩
      · apply StepOk.p
        iterate 3 rfl
        intro β σX hσX
        show SL _ _ _ _ (sput (sput _ (some 100) _) (some 102) _) _ _
        refine sl_guard_n rfl rfl rfl (rfl) ?_
        exact sl_nil ⟨rfl, rfl, rfl, rfl⟩
      · apply StepOk.p
        iterate 3 rfl
        intro β σX hσX
        show SL _ _ _ _ (sput (sput _ (some 100) _) (some 103) _) _ _
        refine sl_guard_n rfl rfl rfl (rfl) ?_
        exact sl_nil ⟨rfl, rfl, rfl, rfl⟩
      · apply StepOk.p
        iterate 3 rfl
        intro β σX hσX
        show SL _ _ _ _ (sput (sput _ (some 100) _) (some 104) _) _ _
        refine sl_guard_n rfl rfl rfl (rfl) ?_
        exact sl_nil ⟨rfl, rfl, rfl, rfl⟩
      · apply StepOk.p
        iterate 3 rfl
        intro β σX hσX
        show SL _ _ _ _ (sput (sput _ (some 100) _) (some 105) _) _ _
        refine sl_pk_t rfl rfl rfl (rfl) rfl ?_
        exact sl_nil ⟨rfl, rfl, rfl, rfl⟩
      · apply StepOk.p
        iterate 3 rfl
        intro β σX hσX
        show SL _ _ _ _ (sput (sput _ (some 105) _) (some 106) _) _ _
        refine sl_callp rfl rfl cal_33 (rpart_of (.node kb nb sb b1 b2) true (by omega) ihb) ?_ ?_
        · repeat constructor
        exact sl_nil ⟨rfl, rfl, rfl, rfl⟩
    refine contT_p (contT_p (contT_p (contT_p (contT_p (contT_p (contT_p (contT_p (contT_p (contT_p (contT_p (contT_p (contT_nil ?_))))))))))))
    refine sa_set 99 (.val (.bool true)) (rfl) ?_
    refine sa_one 31 (by kernel_rfl) rfl ?_
    refine sl_str_add rfl rfl rfl rfl (by have e1 := wa (decide (lvl ka < 2)); have e2 := wb true; simp only [List.length_append, List.length_cons, List.length_nil]; omega) ?_
    refine sl_nil ⟨.nil, ?_⟩
    refine sa_one 32 (by kernel_rfl) rfl ?_
    refine sl_as rfl rfl rfl ?_
    refine sl_nil ⟨.nil, ?_⟩
    refine sa_done (by kernel_rfl) ?_
    refine sw_ret ⟨rfl, _, _, res_one rfl rfl, ?_, ⟨congrArg (fun z => D.val (.str z)) (bin_high (decide_eq_true (by omega)).symm ⟨rfl, by decide, rfl⟩), rfl⟩⟩
    repeat constructor
  refine sw_skip ?_
  refine sw_seq ?_
  refine sa_start [] mixed ?_
  refine sa_take 0 rfl rfl (by kernel_rfl) .nil (pu_mv rfl rfl) ?_
  refine sa_take 1 rfl rfl (by kernel_rfl) .nil (pu_nc rfl rfl rfl) ?_
  first
    | refine sa_take 2 rfl rfl (by kernel_rfl) .nil (pu_fieldAddr_ptr rfl rfl fo_53_3) ?_
    | refine sa_take 2 rfl rfl (by kernel_rfl) .nil (pu_fieldAddr_rp rfl rfl fo_53_3) ?_
    | refine sa_take 2 rfl rfl (by kernel_rfl) .nil (pu_fieldAddr_ref rfl rfl fo_53_3) ?_
  refine sa_take 3 rfl rfl (by kernel_rfl) .nil (pu_load_rp1 rfl rfl ag_22 rfl) ?_
  refine sa_take 4 rfl rfl (by kernel_rfl) .nil (pu_mv rfl rfl) ?_
  refine sa_take 5 rfl rfl (by kernel_rfl) .nil (pu_nc rfl rfl rfl) ?_
  first
    | refine sa_take 6 rfl rfl (by kernel_rfl) .nil (pu_fieldAddr_ptr rfl rfl fo_53_3) ?_
    | refine sa_take 6 rfl rfl (by kernel_rfl) .nil (pu_fieldAddr_rp rfl rfl fo_53_3) ?_
    | refine sa_take 6 rfl rfl (by kernel_rfl) .nil (pu_fieldAddr_ref rfl rfl fo_53_3) ?_
  refine sa_take 7 rfl rfl (by kernel_rfl) .nil (pu_load_rp1 rfl rfl ag_22 rfl) ?_
  refine sa_take 11 rfl rfl (by kernel_rfl) .nil (pu_mv rfl rfl) ?_
  refine sa_take 14 rfl rfl (by kernel_rfl) .nil (pu_mv rfl rfl) ?_
  refine sa_take 15 rfl rfl (by kernel_rfl) .nil (pu_nc rfl rfl rfl) ?_
  first
    | refine sa_take 16 rfl rfl (by kernel_rfl) .nil (pu_fieldAddr_ptr rfl rfl fo_53_4) ?_
    | refine sa_take 16 rfl rfl (by kernel_rfl) .nil (pu_fieldAddr_rp rfl rfl fo_53_4) ?_
    | refine sa_take 16 rfl rfl (by kernel_rfl) .nil (pu_fieldAddr_ref rfl rfl fo_53_4) ?_
  refine sa_take 17 rfl rfl (by kernel_rfl) .nil (pu_load_rp1 rfl rfl ag_22 rfl) ?_
  refine sa_take 18 rfl rfl (by kernel_rfl) .nil (pu_mv rfl rfl) ?_
  refine sa_take 19 rfl rfl (by kernel_rfl) .nil (pu_nc rfl rfl rfl) ?_
  first
    | refine sa_take 20 rfl rfl (by kernel_rfl) .nil (pu_fieldAddr_ptr rfl rfl fo_53_4) ?_
    | refine sa_take 20 rfl rfl (by kernel_rfl) .nil (pu_fieldAddr_rp rfl rfl fo_53_4) ?_
    | refine sa_take 20 rfl rfl (by kernel_rfl) .nil (pu_fieldAddr_ref rfl rfl fo_53_4) ?_
  refine sa_take 21 rfl rfl (by kernel_rfl) .nil (pu_load_rp1 rfl rfl ag_22 rfl) ?_
  refine sa_one 8 (by kernel_rfl) rfl ?_
  refine sl_callp rfl rfl cal_34 (low_ok ka na sa a1 a2) ?_ ?_
  · repeat constructor
  refine sl_nil ⟨.nil, ?_⟩
  refine sa_one 9 (by kernel_rfl) rfl ?_
  refine sl_callp rfl rfl cal_33 (rpart_of (.node ka na sa a1 a2) (decide (lvl ka < 2)) (by omega) iha) ?_ ?_
  · repeat constructor
  refine sl_nil ⟨.nil, ?_⟩
  apply sa_conf [.p 10 (some 87) [] _, .p 12 (some 89) [0] _, .p 13 (some 90) [1] _, .p 22 (some 99) [] _, .p 23 (some 100) [3] _, .p 24 (some 101) [4] _, .p 25 (some 102) [4, 5] _, .p 26 (some 103) [4, 6] _, .p 27 (some 104) [4, 7] _, .p 28 (some 105) [4, 8] _, .p 29 (some 106) [4, 9] _, .p 30 (some 107) [9, 10] _] (I := [(10, []), (12, [0]), (13, [1]), (22, []), (23, [3]), (24, [4]), (25, [4, 5]), (26, [4, 6]), (27, [4, 7]), (28, [4, 8]), (29, [4, 9]), (30, [9, 10])]) (nT := 12) rfl rfl rfl (by kernel_rfl) .nil
  · refine (.cons ?_ (.cons ?_ (.cons ?_ (.cons ?_ (.cons ?_ (.cons ?_ (.cons ?_ (.cons ?_ (.cons ?_ (.cons ?_ (.cons ?_ (.cons ?_ .nil))))))))))))
    · apply StepOk.p
      iterate 3 rfl
      intro β σX hσX
      refine sl_str_add rfl rfl rfl rfl (by have := wa (decide (lvl ka < 2)); simp only [List.length_cons, List.length_nil]; omega) ?_
      exact sl_nil ⟨rfl, rfl, rfl, rfl⟩
    · apply StepOk.p
      iterate 3 rfl
      intro β σX hσX
      show SL _ _ _ _ (sput _ (some 87) _) _ _
      refine sl_str_add rfl rfl rfl rfl (by have := wa (decide (lvl ka < 2)); simp only [List.length_append, List.length_cons, List.length_nil]; omega) ?_
      exact sl_nil ⟨rfl, rfl, rfl, rfl⟩
    · apply StepOk.p
      iterate 3 rfl
      intro β σX hσX
      show SL _ _ _ _ (sput _ (some 89) _) _ _
      refine sl_str_add rfl rfl rfl rfl (by have := wa (decide (lvl ka < 2)); simp only [List.length_append, List.length_cons, List.length_nil]; omega) ?_
      exact sl_nil ⟨rfl, rfl, rfl, rfl⟩
    · apply StepOk.p
      iterate 3 rfl
      intro β σX hσX
      refine sl_callp rfl rfl cal_34 ((fun σ => low_is kb nb sb b1 b2 (decide_eq_false hg) σ)) ?_ ?_
      · repeat constructor
      exact sl_nil ⟨rfl, rfl, rfl, rfl⟩
    · apply StepOk.p
      iterate 3 rfl
      intro β σX hσX
      show SL _ _ _ _ (sput _ (some 99) _) _ _
      refine sl_mv rfl rfl rfl ?_
      exact sl_nil ⟨rfl, rfl, rfl, rfl⟩
    · apply StepOk.p
      iterate 3 rfl
      intro β σX hσX
      show SL _ _ _ _ (sput _ (some 100) _) _ _
      refine sl_guard_y rfl rfl rfl (rfl) ?_
      refine sl_mv rfl rfl rfl ?_
      exact sl_nil ⟨rfl, rfl, rfl, rfl⟩
    · apply StepOk.p
      iterate 3 rfl
      intro β σX hσX
      show SL _ _ _ _ (sput (sput _ (some 100) _) (some 101) _) _ _
      refine sl_guard_y rfl rfl rfl (rfl) ?_
      refine sl_nc rfl rfl rfl rfl ?_
      exact sl_nil ⟨rfl, rfl, rfl, rfl⟩
    · apply StepOk.p
      iterate 3 rfl
      intro β σX hσX
      show SL _ _ _ _ (sput (sput _ (some 100) _) (some 102) _) _ _
      refine sl_guard_y rfl rfl rfl (rfl) ?_
      first
        | refine sl_fieldAddr_ptr rfl rfl rfl fo_53_4 ?_
        | refine sl_fieldAddr_rp rfl rfl rfl fo_53_4 ?_
        | refine sl_fieldAddr_ref rfl rfl rfl fo_53_4 ?_
      exact sl_nil ⟨rfl, rfl, rfl, rfl⟩
    · apply StepOk.p
      iterate 3 rfl
      intro β σX hσX
      show SL _ _ _ _ (sput (sput _ (some 100) _) (some 103) _) _ _
      refine sl_guard_y rfl rfl rfl (rfl) ?_
      first
        | refine sl_load_rp1 rfl rfl rfl ag_22 rfl ?_
        | refine sl_load_blk1 rfl rfl rfl ag_22 (hσX _ (by repeat constructor)) rfl ?_
      exact sl_nil ⟨rfl, rfl, rfl, rfl⟩
    · apply StepOk.p
      iterate 3 rfl
      intro β σX hσX
      show SL _ _ _ _ (sput (sput _ (some 100) _) (some 104) _) _ _
      refine sl_guard_y rfl rfl rfl (rfl) ?_
      refine sl_callp rfl rfl cal_35 (high_ok kb nb sb b1 b2) ?_ ?_
      · repeat constructor
      exact sl_nil ⟨rfl, rfl, rfl, rfl⟩
    · apply StepOk.p
      iterate 3 rfl
      intro β σX hσX
      show SL _ _ _ _ (sput (sput _ (some 100) _) (some 105) _) _ _
      refine sl_pk_f rfl rfl rfl (rfl) rfl ?_
      exact sl_nil ⟨rfl, rfl, rfl, rfl⟩
    · apply StepOk.p
      iterate 3 rfl
      intro β σX hσX
      show SL _ _ _ _ (sput (sput _ (some 105) _) (some 106) _) _ _
      refine sl_callp rfl rfl cal_33 (rpart_of (.node kb nb sb b1 b2) (decide (lvl kb = 2)) (by omega) ihb) ?_ ?_
      · repeat constructor
      exact sl_nil ⟨rfl, rfl, rfl, rfl⟩
  refine contT_p (contT_p (contT_p (contT_p (contT_p (contT_p (contT_p (contT_p (contT_p (contT_p (contT_p (contT_p (contT_nil ?_))))))))))))
  refine sa_set 99 (.val (.bool false)) (rfl) ?_
  refine sa_one 31 (by kernel_rfl) rfl ?_
  refine sl_str_add rfl rfl rfl rfl (by have e1 := wa (decide (lvl ka < 2)); have e2 := wb (decide (lvl kb = 2)); simp only [List.length_append, List.length_cons, List.length_nil]; omega) ?_
  refine sl_nil ⟨.nil, ?_⟩
  refine sa_one 32 (by kernel_rfl) rfl ?_
  refine sl_as rfl rfl rfl ?_
  refine sl_nil ⟨.nil, ?_⟩
  refine sa_done (by kernel_rfl) ?_
  refine sw_ret ⟨rfl, _, _, res_one rfl rfl, ?_, ⟨congrArg (fun z => D.val (.str z)) (bin_high (high_three hg) ⟨rfl, by decide, rfl⟩), rfl⟩⟩
  repeat constructor

end Go.Proofs.YtlolmemiedhhhaaDoor

/- Walks: printed by a program of this session out of its script PrC. -/
namespace Go.Proofs.YtlolmemiedhhhaaDoor
set_option linter.unusedVariables false
set_option linter.unusedSimpArgs false
set_option maxRecDepth 4000
set_option maxHeartbeats 4000000
open Go Go.RowKit SL


theorem right_nil (σ : List Chunk) : FSpec Tryd.prog 10 [.val .nil] σ (fun d σ' => d = .val (.bool false) ∧ σ' = σ) := by
  refine spec_of_sw Tryd.func10 rfl ?_
  refine sw_seq ?_
  refine sl_region ?_
  refine sl_as rfl rfl rfl ?_
  refine sl_nil ?_
  refine sw_seq ?_
  refine sw_seq ?_
  refine sl_region ?_
  refine sl_mv rfl rfl rfl ?_
  refine sl_eq_nil rfl rfl rfl u_22 ?_
  refine sl_nil ?_
  refine sw_true rfl (rfl) ?_
  refine sw_seq ?_
  refine sl_region ?_
  refine sl_as rfl rfl rfl ?_
  refine sl_nil ?_
  refine sw_ret ⟨rfl, _, _, res_one rfl rfl, ?_, ⟨rfl, rfl⟩⟩
  repeat constructor


theorem right_node (k n : Int) (s : Txt) (a b : Ex) (σ : List Chunk)
    (iha : ∀ σ, FSpec Tryd.prog 10 [.val (exV a)] σ (fun d σ' => d = .val (.bool (rightE a)) ∧ σ' = σ)) (ihb : ∀ σ, FSpec Tryd.prog 10 [.val (exV b)] σ (fun d σ' => d = .val (.bool (rightE b)) ∧ σ' = σ)) :
    FSpec Tryd.prog 10 [.val (.ref (.agg [.int .i64 k, .int .i64 n, .str s, exV a, exV b]))] σ (fun d σ' => d = .val (.bool (rightE (.node k n s a b))) ∧ σ' = σ) := by
  refine spec_of_sw Tryd.func10 rfl ?_
  refine sw_seq ?_
  refine sl_region ?_
  refine sl_as rfl rfl rfl ?_
  refine sl_nil ?_
  refine sw_seq ?_
  refine sw_seq ?_
  refine sl_region ?_
  refine sl_mv rfl rfl rfl ?_
  first
    | refine sl_eq_nil rfl rfl rfl u_22 ?_
    | refine sl_eq_nil rfl rfl (isNil_ex _) u_22 ?_
  refine sl_nil ?_
  refine sw_false rfl (rfl) ?_
  refine sw_skip ?_
  refine sw_seq ?_
  refine sw_seq ?_
  refine sl_region ?_
  refine sl_mv rfl rfl rfl ?_
  refine sl_nc rfl rfl rfl rfl ?_
  first
    | refine sl_fieldAddr_ptr rfl rfl rfl fo_53_0 ?_
    | refine sl_fieldAddr_rp rfl rfl rfl fo_53_0 ?_
    | refine sl_fieldAddr_ref rfl rfl rfl fo_53_0 ?_
  first
    | refine sl_load_rp1 rfl rfl rfl ag_3 rfl ?_
    | refine sl_load_blk1 rfl rfl rfl ag_3 (by repeat constructor) rfl ?_
  refine sl_nil ?_
  refine sw_block ?_
  refine sw_seq ?_
  refine sl_region ?_
  refine sl_bin rfl rfl rfl rfl rfl ?_
  refine sl_as rfl rfl rfl ?_
  refine sl_nil ?_
  refine sw_cond rfl (fun h0 => ?_) (fun h0 => ?_)
  · refine sw_seq ?_
    refine sl_region ?_
    refine sl_mv rfl rfl rfl ?_
    refine sl_nc rfl rfl rfl rfl ?_
    first
      | refine sl_fieldAddr_ptr rfl rfl rfl fo_53_1 ?_
      | refine sl_fieldAddr_rp rfl rfl rfl fo_53_1 ?_
      | refine sl_fieldAddr_ref rfl rfl rfl fo_53_1 ?_
    first
      | refine sl_load_rp1 rfl rfl rfl ag_2 rfl ?_
      | refine sl_load_blk1 rfl rfl rfl ag_2 (by repeat constructor) rfl ?_
    refine sl_bin rfl rfl rfl rfl rfl ?_
    refine sl_mv rfl rfl rfl ?_
    refine sl_case_at 16 rfl (fun g1 => ?_) (fun g1 => ?_)
    · have e1 := g1
      refine sl_guard_y rfl rfl rfl g1 ?_
      refine sl_mv rfl rfl rfl ?_
      refine sl_guard_y rfl rfl rfl g1 ?_
      refine sl_nc rfl rfl rfl rfl ?_
      refine sl_guard_y rfl rfl rfl g1 ?_
      first
        | refine sl_fieldAddr_ptr rfl rfl rfl fo_53_3 ?_
        | refine sl_fieldAddr_rp rfl rfl rfl fo_53_3 ?_
        | refine sl_fieldAddr_ref rfl rfl rfl fo_53_3 ?_
      refine sl_guard_y rfl rfl rfl g1 ?_
      first
        | refine sl_load_rp1 rfl rfl rfl ag_22 rfl ?_
        | refine sl_load_blk1 rfl rfl rfl ag_22 (by repeat constructor) rfl ?_
      refine sl_guard_y rfl rfl rfl g1 ?_
      first
        | refine sl_eq_nil rfl rfl rfl u_22 ?_
        | refine sl_eq_nil rfl rfl (isNil_ex _) u_22 ?_
      refine sl_pk_t rfl rfl rfl g1 rfl ?_
      refine sl_mv rfl rfl rfl ?_
      refine sl_case_at 23 rfl (fun g2 => ?_) (fun g2 => ?_)
      · have e2 := g2
        refine sl_guard_y rfl rfl rfl g2 ?_
        refine sl_mv rfl rfl rfl ?_
        refine sl_guard_y rfl rfl rfl g2 ?_
        refine sl_nc rfl rfl rfl rfl ?_
        refine sl_guard_y rfl rfl rfl g2 ?_
        first
          | refine sl_fieldAddr_ptr rfl rfl rfl fo_53_4 ?_
          | refine sl_fieldAddr_rp rfl rfl rfl fo_53_4 ?_
          | refine sl_fieldAddr_ref rfl rfl rfl fo_53_4 ?_
        refine sl_guard_y rfl rfl rfl g2 ?_
        first
          | refine sl_load_rp1 rfl rfl rfl ag_22 rfl ?_
          | refine sl_load_blk1 rfl rfl rfl ag_22 (by repeat constructor) rfl ?_
        refine sl_guard_y rfl rfl rfl g2 ?_
        first
          | refine sl_eq_nil rfl rfl rfl u_22 ?_
          | refine sl_eq_nil rfl rfl (isNil_ex _) u_22 ?_
        refine sl_pk_t rfl rfl rfl g2 rfl ?_
        refine sl_mv rfl rfl rfl ?_
        refine sl_case_at 30 rfl (fun g3 => ?_) (fun g3 => ?_)
        · have e3 := g3
          refine sl_guard_y rfl rfl rfl g3 ?_
          refine sl_mv rfl rfl rfl ?_
          refine sl_guard_y rfl rfl rfl g3 ?_
          refine sl_nc rfl rfl rfl rfl ?_
          refine sl_guard_y rfl rfl rfl g3 ?_
          first
            | refine sl_fieldAddr_ptr rfl rfl rfl fo_53_2 ?_
            | refine sl_fieldAddr_rp rfl rfl rfl fo_53_2 ?_
            | refine sl_fieldAddr_ref rfl rfl rfl fo_53_2 ?_
          refine sl_guard_y rfl rfl rfl g3 ?_
          first
            | refine sl_load_rp1 rfl rfl rfl ag_9 rfl ?_
            | refine sl_load_blk1 rfl rfl rfl ag_9 (by repeat constructor) rfl ?_
          refine sl_guard_y rfl rfl rfl g3 ?_
          refine sl_str rfl rfl rfl rfl rfl ?_
          refine sl_pk_t rfl rfl rfl g3 rfl ?_
          refine sl_as rfl rfl rfl ?_
          refine sl_nil ?_
          refine sw_ret ⟨rfl, _, _, res_one rfl rfl, ?_, ⟨congrArg (fun b => D.val (.bool b)) (by rw [right0 (eqi_tt h0), e1, e2, e3]; rfl), rfl⟩⟩
          repeat constructor
        have e3 := g3
        refine sl_guard_n rfl rfl rfl g3 ?_
        refine sl_guard_n rfl rfl rfl g3 ?_
        refine sl_guard_n rfl rfl rfl g3 ?_
        refine sl_guard_n rfl rfl rfl g3 ?_
        refine sl_guard_n rfl rfl rfl g3 ?_
        refine sl_pk_f rfl rfl rfl g3 rfl ?_
        refine sl_as rfl rfl rfl ?_
        refine sl_nil ?_
        refine sw_ret ⟨rfl, _, _, res_one rfl rfl, ?_, ⟨congrArg (fun b => D.val (.bool b)) (by rw [right0 (eqi_tt h0), e1, e2, e3]; rfl), rfl⟩⟩
        repeat constructor
      have e2 := g2
      refine sl_guard_n rfl rfl rfl g2 ?_
      refine sl_guard_n rfl rfl rfl g2 ?_
      refine sl_guard_n rfl rfl rfl g2 ?_
      refine sl_guard_n rfl rfl rfl g2 ?_
      refine sl_guard_n rfl rfl rfl g2 ?_
      refine sl_pk_f rfl rfl rfl g2 rfl ?_
      refine sl_mv rfl rfl rfl ?_
      refine sl_guard_n rfl rfl rfl (rfl) ?_
      refine sl_guard_n rfl rfl rfl (rfl) ?_
      refine sl_guard_n rfl rfl rfl (rfl) ?_
      refine sl_guard_n rfl rfl rfl (rfl) ?_
      refine sl_guard_n rfl rfl rfl (rfl) ?_
      refine sl_pk_f rfl rfl rfl (rfl) rfl ?_
      refine sl_as rfl rfl rfl ?_
      refine sl_nil ?_
      refine sw_ret ⟨rfl, _, _, res_one rfl rfl, ?_, ⟨congrArg (fun b => D.val (.bool b)) (by rw [right0 (eqi_tt h0), e1, e2]; rfl), rfl⟩⟩
      repeat constructor
    have e1 := g1
    refine sl_guard_n rfl rfl rfl g1 ?_
    refine sl_guard_n rfl rfl rfl g1 ?_
    refine sl_guard_n rfl rfl rfl g1 ?_
    refine sl_guard_n rfl rfl rfl g1 ?_
    refine sl_guard_n rfl rfl rfl g1 ?_
    refine sl_pk_f rfl rfl rfl g1 rfl ?_
    refine sl_mv rfl rfl rfl ?_
    refine sl_guard_n rfl rfl rfl (rfl) ?_
    refine sl_guard_n rfl rfl rfl (rfl) ?_
    refine sl_guard_n rfl rfl rfl (rfl) ?_
    refine sl_guard_n rfl rfl rfl (rfl) ?_
    refine sl_guard_n rfl rfl rfl (rfl) ?_
    refine sl_pk_f rfl rfl rfl (rfl) rfl ?_
    refine sl_mv rfl rfl rfl ?_
    refine sl_guard_n rfl rfl rfl (rfl) ?_
    refine sl_guard_n rfl rfl rfl (rfl) ?_
    refine sl_guard_n rfl rfl rfl (rfl) ?_
    refine sl_guard_n rfl rfl rfl (rfl) ?_
    refine sl_guard_n rfl rfl rfl (rfl) ?_
    refine sl_pk_f rfl rfl rfl (rfl) rfl ?_
    refine sl_as rfl rfl rfl ?_
    refine sl_nil ?_
    refine sw_ret ⟨rfl, _, _, res_one rfl rfl, ?_, ⟨congrArg (fun b => D.val (.bool b)) (by rw [right0 (eqi_tt h0), e1]; rfl), rfl⟩⟩
    repeat constructor
  refine sw_seq ?_
  refine sl_region ?_
  refine sl_bin rfl rfl rfl rfl rfl ?_
  refine sl_as rfl rfl rfl ?_
  refine sl_nil ?_
  refine sw_cond rfl (fun h1 => ?_) (fun h1 => ?_)
  · refine sw_seq ?_
    refine sl_region ?_
    refine sl_mv rfl rfl rfl ?_
    refine sl_nc rfl rfl rfl rfl ?_
    first
      | refine sl_fieldAddr_ptr rfl rfl rfl fo_53_2 ?_
      | refine sl_fieldAddr_rp rfl rfl rfl fo_53_2 ?_
      | refine sl_fieldAddr_ref rfl rfl rfl fo_53_2 ?_
    first
      | refine sl_load_rp1 rfl rfl rfl ag_9 rfl ?_
      | refine sl_load_blk1 rfl rfl rfl ag_9 (by repeat constructor) rfl ?_
    refine sl_str rfl rfl rfl rfl rfl ?_
    refine sl_mv rfl rfl rfl ?_
    refine sl_case_at 44 rfl (fun g1 => ?_) (fun g1 => ?_)
    · have e1 := g1
      refine sl_guard_y rfl rfl rfl g1 ?_
      refine sl_mv rfl rfl rfl ?_
      refine sl_guard_y rfl rfl rfl g1 ?_
      refine sl_nc rfl rfl rfl rfl ?_
      refine sl_guard_y rfl rfl rfl g1 ?_
      first
        | refine sl_fieldAddr_ptr rfl rfl rfl fo_53_3 ?_
        | refine sl_fieldAddr_rp rfl rfl rfl fo_53_3 ?_
        | refine sl_fieldAddr_ref rfl rfl rfl fo_53_3 ?_
      refine sl_guard_y rfl rfl rfl g1 ?_
      first
        | refine sl_load_rp1 rfl rfl rfl ag_22 rfl ?_
        | refine sl_load_blk1 rfl rfl rfl ag_22 (by repeat constructor) rfl ?_
      refine sl_guard_y rfl rfl rfl g1 ?_
      first
        | refine sl_eq_nil rfl rfl rfl u_22 ?_
        | refine sl_eq_nil rfl rfl (isNil_ex _) u_22 ?_
      refine sl_pk_t rfl rfl rfl g1 rfl ?_
      refine sl_mv rfl rfl rfl ?_
      refine sl_case_at 51 rfl (fun g2 => ?_) (fun g2 => ?_)
      · have e2 := g2
        refine sl_guard_y rfl rfl rfl g2 ?_
        refine sl_mv rfl rfl rfl ?_
        refine sl_guard_y rfl rfl rfl g2 ?_
        refine sl_nc rfl rfl rfl rfl ?_
        refine sl_guard_y rfl rfl rfl g2 ?_
        first
          | refine sl_fieldAddr_ptr rfl rfl rfl fo_53_4 ?_
          | refine sl_fieldAddr_rp rfl rfl rfl fo_53_4 ?_
          | refine sl_fieldAddr_ref rfl rfl rfl fo_53_4 ?_
        refine sl_guard_y rfl rfl rfl g2 ?_
        first
          | refine sl_load_rp1 rfl rfl rfl ag_22 rfl ?_
          | refine sl_load_blk1 rfl rfl rfl ag_22 (by repeat constructor) rfl ?_
        refine sl_guard_y rfl rfl rfl g2 ?_
        first
          | refine sl_eq_nil rfl rfl rfl u_22 ?_
          | refine sl_eq_nil rfl rfl (isNil_ex _) u_22 ?_
        refine sl_pk_t rfl rfl rfl g2 rfl ?_
        refine sl_mv rfl rfl rfl ?_
        refine sl_case_at 58 rfl (fun g3 => ?_) (fun g3 => ?_)
        · have e3 := g3
          refine sl_guard_y rfl rfl rfl g3 ?_
          refine sl_mv rfl rfl rfl ?_
          refine sl_guard_y rfl rfl rfl g3 ?_
          refine sl_nc rfl rfl rfl rfl ?_
          refine sl_guard_y rfl rfl rfl g3 ?_
          first
            | refine sl_fieldAddr_ptr rfl rfl rfl fo_53_1 ?_
            | refine sl_fieldAddr_rp rfl rfl rfl fo_53_1 ?_
            | refine sl_fieldAddr_ref rfl rfl rfl fo_53_1 ?_
          refine sl_guard_y rfl rfl rfl g3 ?_
          first
            | refine sl_load_rp1 rfl rfl rfl ag_2 rfl ?_
            | refine sl_load_blk1 rfl rfl rfl ag_2 (by repeat constructor) rfl ?_
          refine sl_guard_y rfl rfl rfl g3 ?_
          refine sl_bin rfl rfl rfl rfl rfl ?_
          refine sl_pk_t rfl rfl rfl g3 rfl ?_
          refine sl_as rfl rfl rfl ?_
          refine sl_nil ?_
          refine sw_ret ⟨rfl, _, _, res_one rfl rfl, ?_, ⟨congrArg (fun b => D.val (.bool b)) (by rw [right1 (eqi_tt h1), e1, e2, e3]; rfl), rfl⟩⟩
          repeat constructor
        have e3 := g3
        refine sl_guard_n rfl rfl rfl g3 ?_
        refine sl_guard_n rfl rfl rfl g3 ?_
        refine sl_guard_n rfl rfl rfl g3 ?_
        refine sl_guard_n rfl rfl rfl g3 ?_
        refine sl_guard_n rfl rfl rfl g3 ?_
        refine sl_pk_f rfl rfl rfl g3 rfl ?_
        refine sl_as rfl rfl rfl ?_
        refine sl_nil ?_
        refine sw_ret ⟨rfl, _, _, res_one rfl rfl, ?_, ⟨congrArg (fun b => D.val (.bool b)) (by rw [right1 (eqi_tt h1), e1, e2, e3]; rfl), rfl⟩⟩
        repeat constructor
      have e2 := g2
      refine sl_guard_n rfl rfl rfl g2 ?_
      refine sl_guard_n rfl rfl rfl g2 ?_
      refine sl_guard_n rfl rfl rfl g2 ?_
      refine sl_guard_n rfl rfl rfl g2 ?_
      refine sl_guard_n rfl rfl rfl g2 ?_
      refine sl_pk_f rfl rfl rfl g2 rfl ?_
      refine sl_mv rfl rfl rfl ?_
      refine sl_guard_n rfl rfl rfl (rfl) ?_
      refine sl_guard_n rfl rfl rfl (rfl) ?_
      refine sl_guard_n rfl rfl rfl (rfl) ?_
      refine sl_guard_n rfl rfl rfl (rfl) ?_
      refine sl_guard_n rfl rfl rfl (rfl) ?_
      refine sl_pk_f rfl rfl rfl (rfl) rfl ?_
      refine sl_as rfl rfl rfl ?_
      refine sl_nil ?_
      refine sw_ret ⟨rfl, _, _, res_one rfl rfl, ?_, ⟨congrArg (fun b => D.val (.bool b)) (by rw [right1 (eqi_tt h1), e1, e2]; rfl), rfl⟩⟩
      repeat constructor
    have e1 := g1
    refine sl_guard_n rfl rfl rfl g1 ?_
    refine sl_guard_n rfl rfl rfl g1 ?_
    refine sl_guard_n rfl rfl rfl g1 ?_
    refine sl_guard_n rfl rfl rfl g1 ?_
    refine sl_guard_n rfl rfl rfl g1 ?_
    refine sl_pk_f rfl rfl rfl g1 rfl ?_
    refine sl_mv rfl rfl rfl ?_
    refine sl_guard_n rfl rfl rfl (rfl) ?_
    refine sl_guard_n rfl rfl rfl (rfl) ?_
    refine sl_guard_n rfl rfl rfl (rfl) ?_
    refine sl_guard_n rfl rfl rfl (rfl) ?_
    refine sl_guard_n rfl rfl rfl (rfl) ?_
    refine sl_pk_f rfl rfl rfl (rfl) rfl ?_
    refine sl_mv rfl rfl rfl ?_
    refine sl_guard_n rfl rfl rfl (rfl) ?_
    refine sl_guard_n rfl rfl rfl (rfl) ?_
    refine sl_guard_n rfl rfl rfl (rfl) ?_
    refine sl_guard_n rfl rfl rfl (rfl) ?_
    refine sl_guard_n rfl rfl rfl (rfl) ?_
    refine sl_pk_f rfl rfl rfl (rfl) rfl ?_
    refine sl_as rfl rfl rfl ?_
    refine sl_nil ?_
    refine sw_ret ⟨rfl, _, _, res_one rfl rfl, ?_, ⟨congrArg (fun b => D.val (.bool b)) (by rw [right1 (eqi_tt h1), e1]; rfl), rfl⟩⟩
    repeat constructor
  refine sw_seq ?_
  refine sl_region ?_
  refine sl_bin rfl rfl rfl rfl rfl ?_
  refine sl_as rfl rfl rfl ?_
  refine sl_nil ?_
  refine sw_cond rfl (fun h7 => ?_) (fun h7 => ?_)
  · refine sw_seq ?_
    refine sl_region ?_
    refine sl_mv rfl rfl rfl ?_
    refine sl_nc rfl rfl rfl rfl ?_
    first
      | refine sl_fieldAddr_ptr rfl rfl rfl fo_53_3 ?_
      | refine sl_fieldAddr_rp rfl rfl rfl fo_53_3 ?_
      | refine sl_fieldAddr_ref rfl rfl rfl fo_53_3 ?_
    first
      | refine sl_load_rp1 rfl rfl rfl ag_22 rfl ?_
      | refine sl_load_blk1 rfl rfl rfl ag_22 (by repeat constructor) rfl ?_
    refine sl_callf rfl rfl cal_10 (iha σ) ?_ ?_ ?_ (fun _ _ h => h.elim)
    · repeat constructor
    · repeat constructor
    rintro _ _ ⟨rfl, hσ⟩
    have hσ2 := hσ.symm
    subst hσ2
    refine sl_mv rfl rfl rfl ?_
    refine sl_case_at 72 rfl (fun g1 => ?_) (fun g1 => ?_)
    · have e1 := g1
      refine sl_guard_y rfl rfl rfl g1 ?_
      refine sl_mv rfl rfl rfl ?_
      refine sl_guard_y rfl rfl rfl g1 ?_
      refine sl_nc rfl rfl rfl rfl ?_
      refine sl_guard_y rfl rfl rfl g1 ?_
      first
        | refine sl_fieldAddr_ptr rfl rfl rfl fo_53_4 ?_
        | refine sl_fieldAddr_rp rfl rfl rfl fo_53_4 ?_
        | refine sl_fieldAddr_ref rfl rfl rfl fo_53_4 ?_
      refine sl_guard_y rfl rfl rfl g1 ?_
      first
        | refine sl_load_rp1 rfl rfl rfl ag_22 rfl ?_
        | refine sl_load_blk1 rfl rfl rfl ag_22 (by repeat constructor) rfl ?_
      refine sl_guard_y rfl rfl rfl g1 ?_
      first
        | refine sl_eq_nil rfl rfl rfl u_22 ?_
        | refine sl_eq_nil rfl rfl (isNil_ex _) u_22 ?_
      refine sl_pk_t rfl rfl rfl g1 rfl ?_
      refine sl_mv rfl rfl rfl ?_
      refine sl_case_at 79 rfl (fun g2 => ?_) (fun g2 => ?_)
      · have e2 := g2
        refine sl_guard_y rfl rfl rfl g2 ?_
        refine sl_mv rfl rfl rfl ?_
        refine sl_guard_y rfl rfl rfl g2 ?_
        refine sl_nc rfl rfl rfl rfl ?_
        refine sl_guard_y rfl rfl rfl g2 ?_
        first
          | refine sl_fieldAddr_ptr rfl rfl rfl fo_53_1 ?_
          | refine sl_fieldAddr_rp rfl rfl rfl fo_53_1 ?_
          | refine sl_fieldAddr_ref rfl rfl rfl fo_53_1 ?_
        refine sl_guard_y rfl rfl rfl g2 ?_
        first
          | refine sl_load_rp1 rfl rfl rfl ag_2 rfl ?_
          | refine sl_load_blk1 rfl rfl rfl ag_2 (by repeat constructor) rfl ?_
        refine sl_guard_y rfl rfl rfl g2 ?_
        refine sl_bin rfl rfl rfl rfl rfl ?_
        refine sl_pk_t rfl rfl rfl g2 rfl ?_
        refine sl_mv rfl rfl rfl ?_
        refine sl_case_at 86 rfl (fun g3 => ?_) (fun g3 => ?_)
        · have e3 := g3
          refine sl_guard_y rfl rfl rfl g3 ?_
          refine sl_mv rfl rfl rfl ?_
          refine sl_guard_y rfl rfl rfl g3 ?_
          refine sl_nc rfl rfl rfl rfl ?_
          refine sl_guard_y rfl rfl rfl g3 ?_
          first
            | refine sl_fieldAddr_ptr rfl rfl rfl fo_53_2 ?_
            | refine sl_fieldAddr_rp rfl rfl rfl fo_53_2 ?_
            | refine sl_fieldAddr_ref rfl rfl rfl fo_53_2 ?_
          refine sl_guard_y rfl rfl rfl g3 ?_
          first
            | refine sl_load_rp1 rfl rfl rfl ag_9 rfl ?_
            | refine sl_load_blk1 rfl rfl rfl ag_9 (by repeat constructor) rfl ?_
          refine sl_guard_y rfl rfl rfl g3 ?_
          refine sl_str rfl rfl rfl rfl rfl ?_
          refine sl_pk_t rfl rfl rfl g3 rfl ?_
          refine sl_as rfl rfl rfl ?_
          refine sl_nil ?_
          refine sw_ret ⟨rfl, _, _, res_one rfl rfl, ?_, ⟨congrArg (fun b => D.val (.bool b)) (by rw [right7 (eqi_tt h7), e1, e2, e3]; rfl), rfl⟩⟩
          repeat constructor
        have e3 := g3
        refine sl_guard_n rfl rfl rfl g3 ?_
        refine sl_guard_n rfl rfl rfl g3 ?_
        refine sl_guard_n rfl rfl rfl g3 ?_
        refine sl_guard_n rfl rfl rfl g3 ?_
        refine sl_guard_n rfl rfl rfl g3 ?_
        refine sl_pk_f rfl rfl rfl g3 rfl ?_
        refine sl_as rfl rfl rfl ?_
        refine sl_nil ?_
        refine sw_ret ⟨rfl, _, _, res_one rfl rfl, ?_, ⟨congrArg (fun b => D.val (.bool b)) (by rw [right7 (eqi_tt h7), e1, e2, e3]; rfl), rfl⟩⟩
        repeat constructor
      have e2 := g2
      refine sl_guard_n rfl rfl rfl g2 ?_
      refine sl_guard_n rfl rfl rfl g2 ?_
      refine sl_guard_n rfl rfl rfl g2 ?_
      refine sl_guard_n rfl rfl rfl g2 ?_
      refine sl_guard_n rfl rfl rfl g2 ?_
      refine sl_pk_f rfl rfl rfl g2 rfl ?_
      refine sl_mv rfl rfl rfl ?_
      refine sl_guard_n rfl rfl rfl (rfl) ?_
      refine sl_guard_n rfl rfl rfl (rfl) ?_
      refine sl_guard_n rfl rfl rfl (rfl) ?_
      refine sl_guard_n rfl rfl rfl (rfl) ?_
      refine sl_guard_n rfl rfl rfl (rfl) ?_
      refine sl_pk_f rfl rfl rfl (rfl) rfl ?_
      refine sl_as rfl rfl rfl ?_
      refine sl_nil ?_
      refine sw_ret ⟨rfl, _, _, res_one rfl rfl, ?_, ⟨congrArg (fun b => D.val (.bool b)) (by rw [right7 (eqi_tt h7), e1, e2]; rfl), rfl⟩⟩
      repeat constructor
    have e1 := g1
    refine sl_guard_n rfl rfl rfl g1 ?_
    refine sl_guard_n rfl rfl rfl g1 ?_
    refine sl_guard_n rfl rfl rfl g1 ?_
    refine sl_guard_n rfl rfl rfl g1 ?_
    refine sl_guard_n rfl rfl rfl g1 ?_
    refine sl_pk_f rfl rfl rfl g1 rfl ?_
    refine sl_mv rfl rfl rfl ?_
    refine sl_guard_n rfl rfl rfl (rfl) ?_
    refine sl_guard_n rfl rfl rfl (rfl) ?_
    refine sl_guard_n rfl rfl rfl (rfl) ?_
    refine sl_guard_n rfl rfl rfl (rfl) ?_
    refine sl_guard_n rfl rfl rfl (rfl) ?_
    refine sl_pk_f rfl rfl rfl (rfl) rfl ?_
    refine sl_mv rfl rfl rfl ?_
    refine sl_guard_n rfl rfl rfl (rfl) ?_
    refine sl_guard_n rfl rfl rfl (rfl) ?_
    refine sl_guard_n rfl rfl rfl (rfl) ?_
    refine sl_guard_n rfl rfl rfl (rfl) ?_
    refine sl_guard_n rfl rfl rfl (rfl) ?_
    refine sl_pk_f rfl rfl rfl (rfl) rfl ?_
    refine sl_as rfl rfl rfl ?_
    refine sl_nil ?_
    refine sw_ret ⟨rfl, _, _, res_one rfl rfl, ?_, ⟨congrArg (fun b => D.val (.bool b)) (by rw [right7 (eqi_tt h7), e1]; rfl), rfl⟩⟩
    repeat constructor
  refine sw_seq ?_
  refine sw_seq ?_
  refine sl_region ?_
  refine sl_bin rfl rfl rfl rfl rfl ?_
  refine sl_as rfl rfl rfl ?_
  refine sl_nil ?_
  refine sw_cond rfl (fun q2 => ?_) (fun q2 => ?_)
  · refine sw_skip ?_
    refine sw_true rfl (q2) ?_
    have hk : k = 2 ∨ k = 3 ∨ k = 4 ∨ k = 5 ∨ k = 6 := by have := eqi_tt q2; omega
    refine sw_seq ?_
    refine sl_region ?_
    refine sl_mv rfl rfl rfl ?_
    refine sl_nc rfl rfl rfl rfl ?_
    first
      | refine sl_fieldAddr_ptr rfl rfl rfl fo_53_3 ?_
      | refine sl_fieldAddr_rp rfl rfl rfl fo_53_3 ?_
      | refine sl_fieldAddr_ref rfl rfl rfl fo_53_3 ?_
    first
      | refine sl_load_rp1 rfl rfl rfl ag_22 rfl ?_
      | refine sl_load_blk1 rfl rfl rfl ag_22 (by repeat constructor) rfl ?_
    refine sl_callf rfl rfl cal_10 (iha σ) ?_ ?_ ?_ (fun _ _ h => h.elim)
    · repeat constructor
    · repeat constructor
    rintro _ _ ⟨rfl, hσ⟩
    have hσ2 := hσ.symm
    subst hσ2
    refine sl_mv rfl rfl rfl ?_
    refine sl_case_at 104 rfl (fun g1 => ?_) (fun g1 => ?_)
    · have e1 := g1
      refine sl_guard_y rfl rfl rfl g1 ?_
      refine sl_mv rfl rfl rfl ?_
      refine sl_guard_y rfl rfl rfl g1 ?_
      refine sl_nc rfl rfl rfl rfl ?_
      refine sl_guard_y rfl rfl rfl g1 ?_
      first
        | refine sl_fieldAddr_ptr rfl rfl rfl fo_53_4 ?_
        | refine sl_fieldAddr_rp rfl rfl rfl fo_53_4 ?_
        | refine sl_fieldAddr_ref rfl rfl rfl fo_53_4 ?_
      refine sl_guard_y rfl rfl rfl g1 ?_
      first
        | refine sl_load_rp1 rfl rfl rfl ag_22 rfl ?_
        | refine sl_load_blk1 rfl rfl rfl ag_22 (by repeat constructor) rfl ?_
      refine sl_guard_y rfl rfl rfl g1 ?_
      refine sl_callf rfl rfl cal_10 (ihb σ) ?_ ?_ ?_ (fun _ _ h => h.elim)
      · repeat constructor
      · repeat constructor
      rintro _ _ ⟨rfl, hσ⟩
      have hσ2 := hσ.symm
      subst hσ2
      refine sl_pk_t rfl rfl rfl g1 rfl ?_
      refine sl_mv rfl rfl rfl ?_
      refine sl_case_at 111 rfl (fun g2 => ?_) (fun g2 => ?_)
      · have e2 := g2
        refine sl_guard_y rfl rfl rfl g2 ?_
        refine sl_mv rfl rfl rfl ?_
        refine sl_guard_y rfl rfl rfl g2 ?_
        refine sl_nc rfl rfl rfl rfl ?_
        refine sl_guard_y rfl rfl rfl g2 ?_
        first
          | refine sl_fieldAddr_ptr rfl rfl rfl fo_53_1 ?_
          | refine sl_fieldAddr_rp rfl rfl rfl fo_53_1 ?_
          | refine sl_fieldAddr_ref rfl rfl rfl fo_53_1 ?_
        refine sl_guard_y rfl rfl rfl g2 ?_
        first
          | refine sl_load_rp1 rfl rfl rfl ag_2 rfl ?_
          | refine sl_load_blk1 rfl rfl rfl ag_2 (by repeat constructor) rfl ?_
        refine sl_guard_y rfl rfl rfl g2 ?_
        refine sl_bin rfl rfl rfl rfl rfl ?_
        refine sl_pk_t rfl rfl rfl g2 rfl ?_
        refine sl_mv rfl rfl rfl ?_
        refine sl_case_at 118 rfl (fun g3 => ?_) (fun g3 => ?_)
        · have e3 := g3
          refine sl_guard_y rfl rfl rfl g3 ?_
          refine sl_mv rfl rfl rfl ?_
          refine sl_guard_y rfl rfl rfl g3 ?_
          refine sl_nc rfl rfl rfl rfl ?_
          refine sl_guard_y rfl rfl rfl g3 ?_
          first
            | refine sl_fieldAddr_ptr rfl rfl rfl fo_53_2 ?_
            | refine sl_fieldAddr_rp rfl rfl rfl fo_53_2 ?_
            | refine sl_fieldAddr_ref rfl rfl rfl fo_53_2 ?_
          refine sl_guard_y rfl rfl rfl g3 ?_
          first
            | refine sl_load_rp1 rfl rfl rfl ag_9 rfl ?_
            | refine sl_load_blk1 rfl rfl rfl ag_9 (by repeat constructor) rfl ?_
          refine sl_guard_y rfl rfl rfl g3 ?_
          refine sl_str rfl rfl rfl rfl rfl ?_
          refine sl_pk_t rfl rfl rfl g3 rfl ?_
          refine sl_as rfl rfl rfl ?_
          refine sl_nil ?_
          refine sw_ret ⟨rfl, _, _, res_one rfl rfl, ?_, ⟨congrArg (fun b => D.val (.bool b)) (by rw [rightB hk, e1, e2, e3]; rfl), rfl⟩⟩
          repeat constructor
        have e3 := g3
        refine sl_guard_n rfl rfl rfl g3 ?_
        refine sl_guard_n rfl rfl rfl g3 ?_
        refine sl_guard_n rfl rfl rfl g3 ?_
        refine sl_guard_n rfl rfl rfl g3 ?_
        refine sl_guard_n rfl rfl rfl g3 ?_
        refine sl_pk_f rfl rfl rfl g3 rfl ?_
        refine sl_as rfl rfl rfl ?_
        refine sl_nil ?_
        refine sw_ret ⟨rfl, _, _, res_one rfl rfl, ?_, ⟨congrArg (fun b => D.val (.bool b)) (by rw [rightB hk, e1, e2, e3]; rfl), rfl⟩⟩
        repeat constructor
      have e2 := g2
      refine sl_guard_n rfl rfl rfl g2 ?_
      refine sl_guard_n rfl rfl rfl g2 ?_
      refine sl_guard_n rfl rfl rfl g2 ?_
      refine sl_guard_n rfl rfl rfl g2 ?_
      refine sl_guard_n rfl rfl rfl g2 ?_
      refine sl_pk_f rfl rfl rfl g2 rfl ?_
      refine sl_mv rfl rfl rfl ?_
      refine sl_guard_n rfl rfl rfl (rfl) ?_
      refine sl_guard_n rfl rfl rfl (rfl) ?_
      refine sl_guard_n rfl rfl rfl (rfl) ?_
      refine sl_guard_n rfl rfl rfl (rfl) ?_
      refine sl_guard_n rfl rfl rfl (rfl) ?_
      refine sl_pk_f rfl rfl rfl (rfl) rfl ?_
      refine sl_as rfl rfl rfl ?_
      refine sl_nil ?_
      refine sw_ret ⟨rfl, _, _, res_one rfl rfl, ?_, ⟨congrArg (fun b => D.val (.bool b)) (by rw [rightB hk, e1, e2]; rfl), rfl⟩⟩
      repeat constructor
    have e1 := g1
    refine sl_guard_n rfl rfl rfl g1 ?_
    refine sl_guard_n rfl rfl rfl g1 ?_
    refine sl_guard_n rfl rfl rfl g1 ?_
    refine sl_guard_n rfl rfl rfl g1 ?_
    refine sl_guard_n rfl rfl rfl g1 ?_
    refine sl_pk_f rfl rfl rfl g1 rfl ?_
    refine sl_mv rfl rfl rfl ?_
    refine sl_guard_n rfl rfl rfl (rfl) ?_
    refine sl_guard_n rfl rfl rfl (rfl) ?_
    refine sl_guard_n rfl rfl rfl (rfl) ?_
    refine sl_guard_n rfl rfl rfl (rfl) ?_
    refine sl_guard_n rfl rfl rfl (rfl) ?_
    refine sl_pk_f rfl rfl rfl (rfl) rfl ?_
    refine sl_mv rfl rfl rfl ?_
    refine sl_guard_n rfl rfl rfl (rfl) ?_
    refine sl_guard_n rfl rfl rfl (rfl) ?_
    refine sl_guard_n rfl rfl rfl (rfl) ?_
    refine sl_guard_n rfl rfl rfl (rfl) ?_
    refine sl_guard_n rfl rfl rfl (rfl) ?_
    refine sl_pk_f rfl rfl rfl (rfl) rfl ?_
    refine sl_as rfl rfl rfl ?_
    refine sl_nil ?_
    refine sw_ret ⟨rfl, _, _, res_one rfl rfl, ?_, ⟨congrArg (fun b => D.val (.bool b)) (by rw [rightB hk, e1]; rfl), rfl⟩⟩
    repeat constructor
  refine sw_seq ?_
  refine sl_region ?_
  refine sl_bin rfl rfl rfl rfl rfl ?_
  refine sl_as rfl rfl rfl ?_
  refine sl_nil ?_
  refine sw_cond rfl (fun q3 => ?_) (fun q3 => ?_)
  · refine sw_skip ?_
    refine sw_true rfl (q3) ?_
    have hk : k = 2 ∨ k = 3 ∨ k = 4 ∨ k = 5 ∨ k = 6 := by have := eqi_tt q3; omega
    refine sw_seq ?_
    refine sl_region ?_
    refine sl_mv rfl rfl rfl ?_
    refine sl_nc rfl rfl rfl rfl ?_
    first
      | refine sl_fieldAddr_ptr rfl rfl rfl fo_53_3 ?_
      | refine sl_fieldAddr_rp rfl rfl rfl fo_53_3 ?_
      | refine sl_fieldAddr_ref rfl rfl rfl fo_53_3 ?_
    first
      | refine sl_load_rp1 rfl rfl rfl ag_22 rfl ?_
      | refine sl_load_blk1 rfl rfl rfl ag_22 (by repeat constructor) rfl ?_
    refine sl_callf rfl rfl cal_10 (iha σ) ?_ ?_ ?_ (fun _ _ h => h.elim)
    · repeat constructor
    · repeat constructor
    rintro _ _ ⟨rfl, hσ⟩
    have hσ2 := hσ.symm
    subst hσ2
    refine sl_mv rfl rfl rfl ?_
    refine sl_case_at 104 rfl (fun g1 => ?_) (fun g1 => ?_)
    · have e1 := g1
      refine sl_guard_y rfl rfl rfl g1 ?_
      refine sl_mv rfl rfl rfl ?_
      refine sl_guard_y rfl rfl rfl g1 ?_
      refine sl_nc rfl rfl rfl rfl ?_
      refine sl_guard_y rfl rfl rfl g1 ?_
      first
        | refine sl_fieldAddr_ptr rfl rfl rfl fo_53_4 ?_
        | refine sl_fieldAddr_rp rfl rfl rfl fo_53_4 ?_
        | refine sl_fieldAddr_ref rfl rfl rfl fo_53_4 ?_
      refine sl_guard_y rfl rfl rfl g1 ?_
      first
        | refine sl_load_rp1 rfl rfl rfl ag_22 rfl ?_
        | refine sl_load_blk1 rfl rfl rfl ag_22 (by repeat constructor) rfl ?_
      refine sl_guard_y rfl rfl rfl g1 ?_
      refine sl_callf rfl rfl cal_10 (ihb σ) ?_ ?_ ?_ (fun _ _ h => h.elim)
      · repeat constructor
      · repeat constructor
      rintro _ _ ⟨rfl, hσ⟩
      have hσ2 := hσ.symm
      subst hσ2
      refine sl_pk_t rfl rfl rfl g1 rfl ?_
      refine sl_mv rfl rfl rfl ?_
      refine sl_case_at 111 rfl (fun g2 => ?_) (fun g2 => ?_)
      · have e2 := g2
        refine sl_guard_y rfl rfl rfl g2 ?_
        refine sl_mv rfl rfl rfl ?_
        refine sl_guard_y rfl rfl rfl g2 ?_
        refine sl_nc rfl rfl rfl rfl ?_
        refine sl_guard_y rfl rfl rfl g2 ?_
        first
          | refine sl_fieldAddr_ptr rfl rfl rfl fo_53_1 ?_
          | refine sl_fieldAddr_rp rfl rfl rfl fo_53_1 ?_
          | refine sl_fieldAddr_ref rfl rfl rfl fo_53_1 ?_
        refine sl_guard_y rfl rfl rfl g2 ?_
        first
          | refine sl_load_rp1 rfl rfl rfl ag_2 rfl ?_
          | refine sl_load_blk1 rfl rfl rfl ag_2 (by repeat constructor) rfl ?_
        refine sl_guard_y rfl rfl rfl g2 ?_
        refine sl_bin rfl rfl rfl rfl rfl ?_
        refine sl_pk_t rfl rfl rfl g2 rfl ?_
        refine sl_mv rfl rfl rfl ?_
        refine sl_case_at 118 rfl (fun g3 => ?_) (fun g3 => ?_)
        · have e3 := g3
          refine sl_guard_y rfl rfl rfl g3 ?_
          refine sl_mv rfl rfl rfl ?_
          refine sl_guard_y rfl rfl rfl g3 ?_
          refine sl_nc rfl rfl rfl rfl ?_
          refine sl_guard_y rfl rfl rfl g3 ?_
          first
            | refine sl_fieldAddr_ptr rfl rfl rfl fo_53_2 ?_
            | refine sl_fieldAddr_rp rfl rfl rfl fo_53_2 ?_
            | refine sl_fieldAddr_ref rfl rfl rfl fo_53_2 ?_
          refine sl_guard_y rfl rfl rfl g3 ?_
          first
            | refine sl_load_rp1 rfl rfl rfl ag_9 rfl ?_
            | refine sl_load_blk1 rfl rfl rfl ag_9 (by repeat constructor) rfl ?_
          refine sl_guard_y rfl rfl rfl g3 ?_
          refine sl_str rfl rfl rfl rfl rfl ?_
          refine sl_pk_t rfl rfl rfl g3 rfl ?_
          refine sl_as rfl rfl rfl ?_
          refine sl_nil ?_
          refine sw_ret ⟨rfl, _, _, res_one rfl rfl, ?_, ⟨congrArg (fun b => D.val (.bool b)) (by rw [rightB hk, e1, e2, e3]; rfl), rfl⟩⟩
          repeat constructor
        have e3 := g3
        refine sl_guard_n rfl rfl rfl g3 ?_
        refine sl_guard_n rfl rfl rfl g3 ?_
        refine sl_guard_n rfl rfl rfl g3 ?_
        refine sl_guard_n rfl rfl rfl g3 ?_
        refine sl_guard_n rfl rfl rfl g3 ?_
        refine sl_pk_f rfl rfl rfl g3 rfl ?_
        refine sl_as rfl rfl rfl ?_
        refine sl_nil ?_
        refine sw_ret ⟨rfl, _, _, res_one rfl rfl, ?_, ⟨congrArg (fun b => D.val (.bool b)) (by rw [rightB hk, e1, e2, e3]; rfl), rfl⟩⟩
        repeat constructor
      have e2 := g2
      refine sl_guard_n rfl rfl rfl g2 ?_
      refine sl_guard_n rfl rfl rfl g2 ?_
      refine sl_guard_n rfl rfl rfl g2 ?_
      refine sl_guard_n rfl rfl rfl g2 ?_
      refine sl_guard_n rfl rfl rfl g2 ?_
      refine sl_pk_f rfl rfl rfl g2 rfl ?_
      refine sl_mv rfl rfl rfl ?_
      refine sl_guard_n rfl rfl rfl (rfl) ?_
      refine sl_guard_n rfl rfl rfl (rfl) ?_
      refine sl_guard_n rfl rfl rfl (rfl) ?_
      refine sl_guard_n rfl rfl rfl (rfl) ?_
      refine sl_guard_n rfl rfl rfl (rfl) ?_
      refine sl_pk_f rfl rfl rfl (rfl) rfl ?_
      refine sl_as rfl rfl rfl ?_
      refine sl_nil ?_
      refine sw_ret ⟨rfl, _, _, res_one rfl rfl, ?_, ⟨congrArg (fun b => D.val (.bool b)) (by rw [rightB hk, e1, e2]; rfl), rfl⟩⟩
      repeat constructor
    have e1 := g1
    refine sl_guard_n rfl rfl rfl g1 ?_
    refine sl_guard_n rfl rfl rfl g1 ?_
    refine sl_guard_n rfl rfl rfl g1 ?_
    refine sl_guard_n rfl rfl rfl g1 ?_
    refine sl_guard_n rfl rfl rfl g1 ?_
    refine sl_pk_f rfl rfl rfl g1 rfl ?_
    refine sl_mv rfl rfl rfl ?_
    refine sl_guard_n rfl rfl rfl (rfl) ?_
    refine sl_guard_n rfl rfl rfl (rfl) ?_
    refine sl_guard_n rfl rfl rfl (rfl) ?_
    refine sl_guard_n rfl rfl rfl (rfl) ?_
    refine sl_guard_n rfl rfl rfl (rfl) ?_
    refine sl_pk_f rfl rfl rfl (rfl) rfl ?_
    refine sl_mv rfl rfl rfl ?_
    refine sl_guard_n rfl rfl rfl (rfl) ?_
    refine sl_guard_n rfl rfl rfl (rfl) ?_
    refine sl_guard_n rfl rfl rfl (rfl) ?_
    refine sl_guard_n rfl rfl rfl (rfl) ?_
    refine sl_guard_n rfl rfl rfl (rfl) ?_
    refine sl_pk_f rfl rfl rfl (rfl) rfl ?_
    refine sl_as rfl rfl rfl ?_
    refine sl_nil ?_
    refine sw_ret ⟨rfl, _, _, res_one rfl rfl, ?_, ⟨congrArg (fun b => D.val (.bool b)) (by rw [rightB hk, e1]; rfl), rfl⟩⟩
    repeat constructor
  refine sw_seq ?_
  refine sl_region ?_
  refine sl_bin rfl rfl rfl rfl rfl ?_
  refine sl_as rfl rfl rfl ?_
  refine sl_nil ?_
  refine sw_cond rfl (fun q4 => ?_) (fun q4 => ?_)
  · refine sw_skip ?_
    refine sw_true rfl (q4) ?_
    have hk : k = 2 ∨ k = 3 ∨ k = 4 ∨ k = 5 ∨ k = 6 := by have := eqi_tt q4; omega
    refine sw_seq ?_
    refine sl_region ?_
    refine sl_mv rfl rfl rfl ?_
    refine sl_nc rfl rfl rfl rfl ?_
    first
      | refine sl_fieldAddr_ptr rfl rfl rfl fo_53_3 ?_
      | refine sl_fieldAddr_rp rfl rfl rfl fo_53_3 ?_
      | refine sl_fieldAddr_ref rfl rfl rfl fo_53_3 ?_
    first
      | refine sl_load_rp1 rfl rfl rfl ag_22 rfl ?_
      | refine sl_load_blk1 rfl rfl rfl ag_22 (by repeat constructor) rfl ?_
    refine sl_callf rfl rfl cal_10 (iha σ) ?_ ?_ ?_ (fun _ _ h => h.elim)
    · repeat constructor
    · repeat constructor
    rintro _ _ ⟨rfl, hσ⟩
    have hσ2 := hσ.symm
    subst hσ2
    refine sl_mv rfl rfl rfl ?_
    refine sl_case_at 104 rfl (fun g1 => ?_) (fun g1 => ?_)
    · have e1 := g1
      refine sl_guard_y rfl rfl rfl g1 ?_
      refine sl_mv rfl rfl rfl ?_
      refine sl_guard_y rfl rfl rfl g1 ?_
      refine sl_nc rfl rfl rfl rfl ?_
      refine sl_guard_y rfl rfl rfl g1 ?_
      first
        | refine sl_fieldAddr_ptr rfl rfl rfl fo_53_4 ?_
        | refine sl_fieldAddr_rp rfl rfl rfl fo_53_4 ?_
        | refine sl_fieldAddr_ref rfl rfl rfl fo_53_4 ?_
      refine sl_guard_y rfl rfl rfl g1 ?_
      first
        | refine sl_load_rp1 rfl rfl rfl ag_22 rfl ?_
        | refine sl_load_blk1 rfl rfl rfl ag_22 (by repeat constructor) rfl ?_
      refine sl_guard_y rfl rfl rfl g1 ?_
      refine sl_callf rfl rfl cal_10 (ihb σ) ?_ ?_ ?_ (fun _ _ h => h.elim)
      · repeat constructor
      · repeat constructor
      rintro _ _ ⟨rfl, hσ⟩
      have hσ2 := hσ.symm
      subst hσ2
      refine sl_pk_t rfl rfl rfl g1 rfl ?_
      refine sl_mv rfl rfl rfl ?_
      refine sl_case_at 111 rfl (fun g2 => ?_) (fun g2 => ?_)
      · have e2 := g2
        refine sl_guard_y rfl rfl rfl g2 ?_
        refine sl_mv rfl rfl rfl ?_
        refine sl_guard_y rfl rfl rfl g2 ?_
        refine sl_nc rfl rfl rfl rfl ?_
        refine sl_guard_y rfl rfl rfl g2 ?_
        first
          | refine sl_fieldAddr_ptr rfl rfl rfl fo_53_1 ?_
          | refine sl_fieldAddr_rp rfl rfl rfl fo_53_1 ?_
          | refine sl_fieldAddr_ref rfl rfl rfl fo_53_1 ?_
        refine sl_guard_y rfl rfl rfl g2 ?_
        first
          | refine sl_load_rp1 rfl rfl rfl ag_2 rfl ?_
          | refine sl_load_blk1 rfl rfl rfl ag_2 (by repeat constructor) rfl ?_
        refine sl_guard_y rfl rfl rfl g2 ?_
        refine sl_bin rfl rfl rfl rfl rfl ?_
        refine sl_pk_t rfl rfl rfl g2 rfl ?_
        refine sl_mv rfl rfl rfl ?_
        refine sl_case_at 118 rfl (fun g3 => ?_) (fun g3 => ?_)
        · have e3 := g3
          refine sl_guard_y rfl rfl rfl g3 ?_
          refine sl_mv rfl rfl rfl ?_
          refine sl_guard_y rfl rfl rfl g3 ?_
          refine sl_nc rfl rfl rfl rfl ?_
          refine sl_guard_y rfl rfl rfl g3 ?_
          first
            | refine sl_fieldAddr_ptr rfl rfl rfl fo_53_2 ?_
            | refine sl_fieldAddr_rp rfl rfl rfl fo_53_2 ?_
            | refine sl_fieldAddr_ref rfl rfl rfl fo_53_2 ?_
          refine sl_guard_y rfl rfl rfl g3 ?_
          first
            | refine sl_load_rp1 rfl rfl rfl ag_9 rfl ?_
            | refine sl_load_blk1 rfl rfl rfl ag_9 (by repeat constructor) rfl ?_
          refine sl_guard_y rfl rfl rfl g3 ?_
          refine sl_str rfl rfl rfl rfl rfl ?_
          refine sl_pk_t rfl rfl rfl g3 rfl ?_
          refine sl_as rfl rfl rfl ?_
          refine sl_nil ?_
          refine sw_ret ⟨rfl, _, _, res_one rfl rfl, ?_, ⟨congrArg (fun b => D.val (.bool b)) (by rw [rightB hk, e1, e2, e3]; rfl), rfl⟩⟩
          repeat constructor
        have e3 := g3
        refine sl_guard_n rfl rfl rfl g3 ?_
        refine sl_guard_n rfl rfl rfl g3 ?_
        refine sl_guard_n rfl rfl rfl g3 ?_
        refine sl_guard_n rfl rfl rfl g3 ?_
        refine sl_guard_n rfl rfl rfl g3 ?_
        refine sl_pk_f rfl rfl rfl g3 rfl ?_
        refine sl_as rfl rfl rfl ?_
        refine sl_nil ?_
        refine sw_ret ⟨rfl, _, _, res_one rfl rfl, ?_, ⟨congrArg (fun b => D.val (.bool b)) (by rw [rightB hk, e1, e2, e3]; rfl), rfl⟩⟩
        repeat constructor
      have e2 := g2
      refine sl_guard_n rfl rfl rfl g2 ?_
      refine sl_guard_n rfl rfl rfl g2 ?_
      refine sl_guard_n rfl rfl rfl g2 ?_
      refine sl_guard_n rfl rfl rfl g2 ?_
      refine sl_guard_n rfl rfl rfl g2 ?_
      refine sl_pk_f rfl rfl rfl g2 rfl ?_
      refine sl_mv rfl rfl rfl ?_
      refine sl_guard_n rfl rfl rfl (rfl) ?_
      refine sl_guard_n rfl rfl rfl (rfl) ?_
      refine sl_guard_n rfl rfl rfl (rfl) ?_
      refine sl_guard_n rfl rfl rfl (rfl) ?_
      refine sl_guard_n rfl rfl rfl (rfl) ?_
      refine sl_pk_f rfl rfl rfl (rfl) rfl ?_
      refine sl_as rfl rfl rfl ?_
      refine sl_nil ?_
      refine sw_ret ⟨rfl, _, _, res_one rfl rfl, ?_, ⟨congrArg (fun b => D.val (.bool b)) (by rw [rightB hk, e1, e2]; rfl), rfl⟩⟩
      repeat constructor
    have e1 := g1
    refine sl_guard_n rfl rfl rfl g1 ?_
    refine sl_guard_n rfl rfl rfl g1 ?_
    refine sl_guard_n rfl rfl rfl g1 ?_
    refine sl_guard_n rfl rfl rfl g1 ?_
    refine sl_guard_n rfl rfl rfl g1 ?_
    refine sl_pk_f rfl rfl rfl g1 rfl ?_
    refine sl_mv rfl rfl rfl ?_
    refine sl_guard_n rfl rfl rfl (rfl) ?_
    refine sl_guard_n rfl rfl rfl (rfl) ?_
    refine sl_guard_n rfl rfl rfl (rfl) ?_
    refine sl_guard_n rfl rfl rfl (rfl) ?_
    refine sl_guard_n rfl rfl rfl (rfl) ?_
    refine sl_pk_f rfl rfl rfl (rfl) rfl ?_
    refine sl_mv rfl rfl rfl ?_
    refine sl_guard_n rfl rfl rfl (rfl) ?_
    refine sl_guard_n rfl rfl rfl (rfl) ?_
    refine sl_guard_n rfl rfl rfl (rfl) ?_
    refine sl_guard_n rfl rfl rfl (rfl) ?_
    refine sl_guard_n rfl rfl rfl (rfl) ?_
    refine sl_pk_f rfl rfl rfl (rfl) rfl ?_
    refine sl_as rfl rfl rfl ?_
    refine sl_nil ?_
    refine sw_ret ⟨rfl, _, _, res_one rfl rfl, ?_, ⟨congrArg (fun b => D.val (.bool b)) (by rw [rightB hk, e1]; rfl), rfl⟩⟩
    repeat constructor
  refine sw_seq ?_
  refine sl_region ?_
  refine sl_bin rfl rfl rfl rfl rfl ?_
  refine sl_as rfl rfl rfl ?_
  refine sl_nil ?_
  refine sw_cond rfl (fun q5 => ?_) (fun q5 => ?_)
  · refine sw_skip ?_
    refine sw_true rfl (q5) ?_
    have hk : k = 2 ∨ k = 3 ∨ k = 4 ∨ k = 5 ∨ k = 6 := by have := eqi_tt q5; omega
    refine sw_seq ?_
    refine sl_region ?_
    refine sl_mv rfl rfl rfl ?_
    refine sl_nc rfl rfl rfl rfl ?_
    first
      | refine sl_fieldAddr_ptr rfl rfl rfl fo_53_3 ?_
      | refine sl_fieldAddr_rp rfl rfl rfl fo_53_3 ?_
      | refine sl_fieldAddr_ref rfl rfl rfl fo_53_3 ?_
    first
      | refine sl_load_rp1 rfl rfl rfl ag_22 rfl ?_
      | refine sl_load_blk1 rfl rfl rfl ag_22 (by repeat constructor) rfl ?_
    refine sl_callf rfl rfl cal_10 (iha σ) ?_ ?_ ?_ (fun _ _ h => h.elim)
    · repeat constructor
    · repeat constructor
    rintro _ _ ⟨rfl, hσ⟩
    have hσ2 := hσ.symm
    subst hσ2
    refine sl_mv rfl rfl rfl ?_
    refine sl_case_at 104 rfl (fun g1 => ?_) (fun g1 => ?_)
    · have e1 := g1
      refine sl_guard_y rfl rfl rfl g1 ?_
      refine sl_mv rfl rfl rfl ?_
      refine sl_guard_y rfl rfl rfl g1 ?_
      refine sl_nc rfl rfl rfl rfl ?_
      refine sl_guard_y rfl rfl rfl g1 ?_
      first
        | refine sl_fieldAddr_ptr rfl rfl rfl fo_53_4 ?_
        | refine sl_fieldAddr_rp rfl rfl rfl fo_53_4 ?_
        | refine sl_fieldAddr_ref rfl rfl rfl fo_53_4 ?_
      refine sl_guard_y rfl rfl rfl g1 ?_
      first
        | refine sl_load_rp1 rfl rfl rfl ag_22 rfl ?_
        | refine sl_load_blk1 rfl rfl rfl ag_22 (by repeat constructor) rfl ?_
      refine sl_guard_y rfl rfl rfl g1 ?_
      refine sl_callf rfl rfl cal_10 (ihb σ) ?_ ?_ ?_ (fun _ _ h => h.elim)
      · repeat constructor
      · repeat constructor
      rintro _ _ ⟨rfl, hσ⟩
      have hσ2 := hσ.symm
      subst hσ2
      refine sl_pk_t rfl rfl rfl g1 rfl ?_
      refine sl_mv rfl rfl rfl ?_
      refine sl_case_at 111 rfl (fun g2 => ?_) (fun g2 => ?_)
      · have e2 := g2
        refine sl_guard_y rfl rfl rfl g2 ?_
        refine sl_mv rfl rfl rfl ?_
        refine sl_guard_y rfl rfl rfl g2 ?_
        refine sl_nc rfl rfl rfl rfl ?_
        refine sl_guard_y rfl rfl rfl g2 ?_
        first
          | refine sl_fieldAddr_ptr rfl rfl rfl fo_53_1 ?_
          | refine sl_fieldAddr_rp rfl rfl rfl fo_53_1 ?_
          | refine sl_fieldAddr_ref rfl rfl rfl fo_53_1 ?_
        refine sl_guard_y rfl rfl rfl g2 ?_
        first
          | refine sl_load_rp1 rfl rfl rfl ag_2 rfl ?_
          | refine sl_load_blk1 rfl rfl rfl ag_2 (by repeat constructor) rfl ?_
        refine sl_guard_y rfl rfl rfl g2 ?_
        refine sl_bin rfl rfl rfl rfl rfl ?_
        refine sl_pk_t rfl rfl rfl g2 rfl ?_
        refine sl_mv rfl rfl rfl ?_
        refine sl_case_at 118 rfl (fun g3 => ?_) (fun g3 => ?_)
        · have e3 := g3
          refine sl_guard_y rfl rfl rfl g3 ?_
          refine sl_mv rfl rfl rfl ?_
          refine sl_guard_y rfl rfl rfl g3 ?_
          refine sl_nc rfl rfl rfl rfl ?_
          refine sl_guard_y rfl rfl rfl g3 ?_
          first
            | refine sl_fieldAddr_ptr rfl rfl rfl fo_53_2 ?_
            | refine sl_fieldAddr_rp rfl rfl rfl fo_53_2 ?_
            | refine sl_fieldAddr_ref rfl rfl rfl fo_53_2 ?_
          refine sl_guard_y rfl rfl rfl g3 ?_
          first
            | refine sl_load_rp1 rfl rfl rfl ag_9 rfl ?_
            | refine sl_load_blk1 rfl rfl rfl ag_9 (by repeat constructor) rfl ?_
          refine sl_guard_y rfl rfl rfl g3 ?_
          refine sl_str rfl rfl rfl rfl rfl ?_
          refine sl_pk_t rfl rfl rfl g3 rfl ?_
          refine sl_as rfl rfl rfl ?_
          refine sl_nil ?_
          refine sw_ret ⟨rfl, _, _, res_one rfl rfl, ?_, ⟨congrArg (fun b => D.val (.bool b)) (by rw [rightB hk, e1, e2, e3]; rfl), rfl⟩⟩
          repeat constructor
        have e3 := g3
        refine sl_guard_n rfl rfl rfl g3 ?_
        refine sl_guard_n rfl rfl rfl g3 ?_
        refine sl_guard_n rfl rfl rfl g3 ?_
        refine sl_guard_n rfl rfl rfl g3 ?_
        refine sl_guard_n rfl rfl rfl g3 ?_
        refine sl_pk_f rfl rfl rfl g3 rfl ?_
        refine sl_as rfl rfl rfl ?_
        refine sl_nil ?_
        refine sw_ret ⟨rfl, _, _, res_one rfl rfl, ?_, ⟨congrArg (fun b => D.val (.bool b)) (by rw [rightB hk, e1, e2, e3]; rfl), rfl⟩⟩
        repeat constructor
      have e2 := g2
      refine sl_guard_n rfl rfl rfl g2 ?_
      refine sl_guard_n rfl rfl rfl g2 ?_
      refine sl_guard_n rfl rfl rfl g2 ?_
      refine sl_guard_n rfl rfl rfl g2 ?_
      refine sl_guard_n rfl rfl rfl g2 ?_
      refine sl_pk_f rfl rfl rfl g2 rfl ?_
      refine sl_mv rfl rfl rfl ?_
      refine sl_guard_n rfl rfl rfl (rfl) ?_
      refine sl_guard_n rfl rfl rfl (rfl) ?_
      refine sl_guard_n rfl rfl rfl (rfl) ?_
      refine sl_guard_n rfl rfl rfl (rfl) ?_
      refine sl_guard_n rfl rfl rfl (rfl) ?_
      refine sl_pk_f rfl rfl rfl (rfl) rfl ?_
      refine sl_as rfl rfl rfl ?_
      refine sl_nil ?_
      refine sw_ret ⟨rfl, _, _, res_one rfl rfl, ?_, ⟨congrArg (fun b => D.val (.bool b)) (by rw [rightB hk, e1, e2]; rfl), rfl⟩⟩
      repeat constructor
    have e1 := g1
    refine sl_guard_n rfl rfl rfl g1 ?_
    refine sl_guard_n rfl rfl rfl g1 ?_
    refine sl_guard_n rfl rfl rfl g1 ?_
    refine sl_guard_n rfl rfl rfl g1 ?_
    refine sl_guard_n rfl rfl rfl g1 ?_
    refine sl_pk_f rfl rfl rfl g1 rfl ?_
    refine sl_mv rfl rfl rfl ?_
    refine sl_guard_n rfl rfl rfl (rfl) ?_
    refine sl_guard_n rfl rfl rfl (rfl) ?_
    refine sl_guard_n rfl rfl rfl (rfl) ?_
    refine sl_guard_n rfl rfl rfl (rfl) ?_
    refine sl_guard_n rfl rfl rfl (rfl) ?_
    refine sl_pk_f rfl rfl rfl (rfl) rfl ?_
    refine sl_mv rfl rfl rfl ?_
    refine sl_guard_n rfl rfl rfl (rfl) ?_
    refine sl_guard_n rfl rfl rfl (rfl) ?_
    refine sl_guard_n rfl rfl rfl (rfl) ?_
    refine sl_guard_n rfl rfl rfl (rfl) ?_
    refine sl_guard_n rfl rfl rfl (rfl) ?_
    refine sl_pk_f rfl rfl rfl (rfl) rfl ?_
    refine sl_as rfl rfl rfl ?_
    refine sl_nil ?_
    refine sw_ret ⟨rfl, _, _, res_one rfl rfl, ?_, ⟨congrArg (fun b => D.val (.bool b)) (by rw [rightB hk, e1]; rfl), rfl⟩⟩
    repeat constructor
  refine sl_region ?_
  refine sl_bin rfl rfl rfl rfl rfl ?_
  refine sl_as rfl rfl rfl ?_
  refine sl_nil ?_
  refine sw_cond rfl (fun q6 => ?_) (fun q6 => ?_)
  · have hk : k = 2 ∨ k = 3 ∨ k = 4 ∨ k = 5 ∨ k = 6 := by have := eqi_tt q6; omega
    refine sw_seq ?_
    refine sl_region ?_
    refine sl_mv rfl rfl rfl ?_
    refine sl_nc rfl rfl rfl rfl ?_
    first
      | refine sl_fieldAddr_ptr rfl rfl rfl fo_53_3 ?_
      | refine sl_fieldAddr_rp rfl rfl rfl fo_53_3 ?_
      | refine sl_fieldAddr_ref rfl rfl rfl fo_53_3 ?_
    first
      | refine sl_load_rp1 rfl rfl rfl ag_22 rfl ?_
      | refine sl_load_blk1 rfl rfl rfl ag_22 (by repeat constructor) rfl ?_
    refine sl_callf rfl rfl cal_10 (iha σ) ?_ ?_ ?_ (fun _ _ h => h.elim)
    · repeat constructor
    · repeat constructor
    rintro _ _ ⟨rfl, hσ⟩
    have hσ2 := hσ.symm
    subst hσ2
    refine sl_mv rfl rfl rfl ?_
    refine sl_case_at 104 rfl (fun g1 => ?_) (fun g1 => ?_)
    · have e1 := g1
      refine sl_guard_y rfl rfl rfl g1 ?_
      refine sl_mv rfl rfl rfl ?_
      refine sl_guard_y rfl rfl rfl g1 ?_
      refine sl_nc rfl rfl rfl rfl ?_
      refine sl_guard_y rfl rfl rfl g1 ?_
      first
        | refine sl_fieldAddr_ptr rfl rfl rfl fo_53_4 ?_
        | refine sl_fieldAddr_rp rfl rfl rfl fo_53_4 ?_
        | refine sl_fieldAddr_ref rfl rfl rfl fo_53_4 ?_
      refine sl_guard_y rfl rfl rfl g1 ?_
      first
        | refine sl_load_rp1 rfl rfl rfl ag_22 rfl ?_
        | refine sl_load_blk1 rfl rfl rfl ag_22 (by repeat constructor) rfl ?_
      refine sl_guard_y rfl rfl rfl g1 ?_
      refine sl_callf rfl rfl cal_10 (ihb σ) ?_ ?_ ?_ (fun _ _ h => h.elim)
      · repeat constructor
      · repeat constructor
      rintro _ _ ⟨rfl, hσ⟩
      have hσ2 := hσ.symm
      subst hσ2
      refine sl_pk_t rfl rfl rfl g1 rfl ?_
      refine sl_mv rfl rfl rfl ?_
      refine sl_case_at 111 rfl (fun g2 => ?_) (fun g2 => ?_)
      · have e2 := g2
        refine sl_guard_y rfl rfl rfl g2 ?_
        refine sl_mv rfl rfl rfl ?_
        refine sl_guard_y rfl rfl rfl g2 ?_
        refine sl_nc rfl rfl rfl rfl ?_
        refine sl_guard_y rfl rfl rfl g2 ?_
        first
          | refine sl_fieldAddr_ptr rfl rfl rfl fo_53_1 ?_
          | refine sl_fieldAddr_rp rfl rfl rfl fo_53_1 ?_
          | refine sl_fieldAddr_ref rfl rfl rfl fo_53_1 ?_
        refine sl_guard_y rfl rfl rfl g2 ?_
        first
          | refine sl_load_rp1 rfl rfl rfl ag_2 rfl ?_
          | refine sl_load_blk1 rfl rfl rfl ag_2 (by repeat constructor) rfl ?_
        refine sl_guard_y rfl rfl rfl g2 ?_
        refine sl_bin rfl rfl rfl rfl rfl ?_
        refine sl_pk_t rfl rfl rfl g2 rfl ?_
        refine sl_mv rfl rfl rfl ?_
        refine sl_case_at 118 rfl (fun g3 => ?_) (fun g3 => ?_)
        · have e3 := g3
          refine sl_guard_y rfl rfl rfl g3 ?_
          refine sl_mv rfl rfl rfl ?_
          refine sl_guard_y rfl rfl rfl g3 ?_
          refine sl_nc rfl rfl rfl rfl ?_
          refine sl_guard_y rfl rfl rfl g3 ?_
          first
            | refine sl_fieldAddr_ptr rfl rfl rfl fo_53_2 ?_
            | refine sl_fieldAddr_rp rfl rfl rfl fo_53_2 ?_
            | refine sl_fieldAddr_ref rfl rfl rfl fo_53_2 ?_
          refine sl_guard_y rfl rfl rfl g3 ?_
          first
            | refine sl_load_rp1 rfl rfl rfl ag_9 rfl ?_
            | refine sl_load_blk1 rfl rfl rfl ag_9 (by repeat constructor) rfl ?_
          refine sl_guard_y rfl rfl rfl g3 ?_
          refine sl_str rfl rfl rfl rfl rfl ?_
          refine sl_pk_t rfl rfl rfl g3 rfl ?_
          refine sl_as rfl rfl rfl ?_
          refine sl_nil ?_
          refine sw_ret ⟨rfl, _, _, res_one rfl rfl, ?_, ⟨congrArg (fun b => D.val (.bool b)) (by rw [rightB hk, e1, e2, e3]; rfl), rfl⟩⟩
          repeat constructor
        have e3 := g3
        refine sl_guard_n rfl rfl rfl g3 ?_
        refine sl_guard_n rfl rfl rfl g3 ?_
        refine sl_guard_n rfl rfl rfl g3 ?_
        refine sl_guard_n rfl rfl rfl g3 ?_
        refine sl_guard_n rfl rfl rfl g3 ?_
        refine sl_pk_f rfl rfl rfl g3 rfl ?_
        refine sl_as rfl rfl rfl ?_
        refine sl_nil ?_
        refine sw_ret ⟨rfl, _, _, res_one rfl rfl, ?_, ⟨congrArg (fun b => D.val (.bool b)) (by rw [rightB hk, e1, e2, e3]; rfl), rfl⟩⟩
        repeat constructor
      have e2 := g2
      refine sl_guard_n rfl rfl rfl g2 ?_
      refine sl_guard_n rfl rfl rfl g2 ?_
      refine sl_guard_n rfl rfl rfl g2 ?_
      refine sl_guard_n rfl rfl rfl g2 ?_
      refine sl_guard_n rfl rfl rfl g2 ?_
      refine sl_pk_f rfl rfl rfl g2 rfl ?_
      refine sl_mv rfl rfl rfl ?_
      refine sl_guard_n rfl rfl rfl (rfl) ?_
      refine sl_guard_n rfl rfl rfl (rfl) ?_
      refine sl_guard_n rfl rfl rfl (rfl) ?_
      refine sl_guard_n rfl rfl rfl (rfl) ?_
      refine sl_guard_n rfl rfl rfl (rfl) ?_
      refine sl_pk_f rfl rfl rfl (rfl) rfl ?_
      refine sl_as rfl rfl rfl ?_
      refine sl_nil ?_
      refine sw_ret ⟨rfl, _, _, res_one rfl rfl, ?_, ⟨congrArg (fun b => D.val (.bool b)) (by rw [rightB hk, e1, e2]; rfl), rfl⟩⟩
      repeat constructor
    have e1 := g1
    refine sl_guard_n rfl rfl rfl g1 ?_
    refine sl_guard_n rfl rfl rfl g1 ?_
    refine sl_guard_n rfl rfl rfl g1 ?_
    refine sl_guard_n rfl rfl rfl g1 ?_
    refine sl_guard_n rfl rfl rfl g1 ?_
    refine sl_pk_f rfl rfl rfl g1 rfl ?_
    refine sl_mv rfl rfl rfl ?_
    refine sl_guard_n rfl rfl rfl (rfl) ?_
    refine sl_guard_n rfl rfl rfl (rfl) ?_
    refine sl_guard_n rfl rfl rfl (rfl) ?_
    refine sl_guard_n rfl rfl rfl (rfl) ?_
    refine sl_guard_n rfl rfl rfl (rfl) ?_
    refine sl_pk_f rfl rfl rfl (rfl) rfl ?_
    refine sl_mv rfl rfl rfl ?_
    refine sl_guard_n rfl rfl rfl (rfl) ?_
    refine sl_guard_n rfl rfl rfl (rfl) ?_
    refine sl_guard_n rfl rfl rfl (rfl) ?_
    refine sl_guard_n rfl rfl rfl (rfl) ?_
    refine sl_guard_n rfl rfl rfl (rfl) ?_
    refine sl_pk_f rfl rfl rfl (rfl) rfl ?_
    refine sl_as rfl rfl rfl ?_
    refine sl_nil ?_
    refine sw_ret ⟨rfl, _, _, res_one rfl rfl, ?_, ⟨congrArg (fun b => D.val (.bool b)) (by rw [rightB hk, e1]; rfl), rfl⟩⟩
    repeat constructor
  refine sw_skip ?_
  refine sw_seq ?_
  refine sl_region ?_
  refine sl_as rfl rfl rfl ?_
  refine sl_nil ?_
  refine sw_ret ⟨rfl, _, _, res_one rfl rfl, ?_, ⟨congrArg (fun b => D.val (.bool b)) (rightN ⟨eqi_ff h0, eqi_ff h1, eqi_ff h7, eqi_ff q2, eqi_ff q3, eqi_ff q4, eqi_ff q5, eqi_ff q6⟩).symm, rfl⟩⟩
  repeat constructor

theorem right_ok : ∀ (e : Ex) (σ : List Chunk), FSpec Tryd.prog 10 [.val (exV e)] σ (fun d σ' => d = .val (.bool (rightE e)) ∧ σ' = σ)
  | .nil, σ => right_nil σ
  | .node k n s a b, σ => right_node k n s a b σ (right_ok a) (right_ok b)

end Go.Proofs.YtlolmemiedhhhaaDoor

/- Walks: printed by a program of this session out of its script CovC. -/
namespace Go.Proofs.YtlolmemiedhhhaaDoor
set_option linter.unusedVariables false
set_option linter.unusedSimpArgs false
set_option maxRecDepth 4000
set_option maxHeartbeats 4000000
open Go Go.RowKit SL


/-- A tree behind a pointer. -/
theorem cov_ex : ∀ n, Covers Tryd.prog n 22 fun xs => ∃ e : Ex, xs = [exV e] ∧ ExOk e
  | 0 => covers_zero
  | 1 => by
    refine (covers_ptr Tryd.underlying22 (e := 53) (show (0 : Nat) < _ by rw [show Tryd.prog.cellsOf 53 = 5 by kernel_rfl]; decide) covers_zero (S := fun _ => False)).mono fun xs h => ?_
    rcases h with rfl | ⟨ys, h, rfl⟩
    · exact ⟨.nil, rfl, trivial⟩
    · exact h.elim
  | n + 2 => by
    refine (covers_ptr Tryd.underlying22 (e := 53) (show (0 : Nat) < _ by rw [show Tryd.prog.cellsOf 53 = 5 by kernel_rfl]; decide)
      (covers_struct Tryd.underlying53 (Ss := [fun xs => ∃ a : Int, xs = (i64V a).cells ∧ isI64 a, fun xs => ∃ a : Int, xs = (i64V a).cells ∧ isI64 a, fun xs => ∃ a : List UInt8, xs = (strV a).cells ∧ a.length ≤ maxLen,
          fun xs => ∃ e : Ex, xs = [exV e] ∧ ExOk e, fun xs => ∃ e : Ex, xs = [exV e] ∧ ExOk e])
        ⟨rfl, cov_i64 Tryd.underlying3 n, by kernel_rfl, cov_i64 Tryd.underlying2 n, by kernel_rfl, cov_str Tryd.underlying9 n, by kernel_rfl, cov_ex n, by kernel_rfl, cov_ex n, show (_ : Nat) = _ by kernel_rfl⟩)).mono fun xs h => ?_
    rcases h with rfl | ⟨ys, h, rfl⟩
    · exact ⟨.nil, rfl, trivial⟩
    · obtain ⟨_, _, rfl, ⟨k, rfl, h1⟩, _, _, rfl, ⟨n, rfl, h2⟩, _, _, rfl, ⟨s, rfl, h3⟩, _, _, rfl, ⟨a, rfl, h4⟩, _, _, rfl, ⟨b, rfl, h5⟩, rfl⟩ := h
      exact ⟨.node k n s a b, rfl, h1, h2, h4, h5⟩

/-- A pointer as a statement's argument. -/
theorem arg_ptr {P : Program} {t : TypeId} {α : Type} {f : α → V} {F : α → Prop} (hc : ∀ n, Covers P n t fun xs => ∃ a : α, xs = [f a] ∧ F a)
    {H : Type} {enc : TypeId × Value → H} {W : World} {sp : Nat → Bool} {held : Bool} {v : Value} {d : DataW H} {ps : List MemPlace} (h : DataW.Trod enc P W 0 sp held t v d ps) (hv : ∀ cs, v ≠ .agg cs) : ∃ a, F a ∧ RepV (memC W) v (f a) := by
  obtain ⟨xs, ⟨a, rfl, ha⟩, h3⟩ := covers_arg1 hc h hv
  exact ⟨a, ha, h3 _ rfl⟩

end Go.Proofs.YtlolmemiedhhhaaDoor
