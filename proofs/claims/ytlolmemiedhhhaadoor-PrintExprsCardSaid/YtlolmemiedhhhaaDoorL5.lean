/- Merged: the program logic, plain laws and walks (each part's first row says what it is); no conditions of its own. -/
import Derived.Test.YtlolmemiedhhhaaDoorL4
import Derived.Test.YtlolmemiedhhhaaDoorL3

/- Walks: printed by a program of this session out of its script PrD. -/
namespace Go.Proofs.YtlolmemiedhhhaaDoor
set_option linter.unusedVariables false
set_option linter.unusedSimpArgs false
set_option maxRecDepth 4000
set_option maxHeartbeats 4000000
open Go Go.RowKit SL


theorem light_nil (q : Nat) (l d : Int) (σ : List Chunk) : FSpec Tryd.prog 9 [.val .nil, .ptr q 0, .val (.int .i64 d)] (.blk q [.val (.int .i64 l)] :: σ) (fun d' σ' => d' = .val (.bool true) ∧ σ' = .blk q [.val (.int .i64 l)] :: σ) := by
  refine spec_of_sw Tryd.func9 rfl ?_
  refine sw_seq ?_
  refine sl_region ?_
  refine sl_as rfl rfl rfl ?_
  refine sl_nil ?_
  refine sw_seq ?_
  refine sw_seq ?_
  refine sl_region ?_
  refine sl_mv rfl rfl rfl ?_
  refine sl_eq_nil rfl rfl rfl u_22 ?_
  refine sl_nil ?_
  refine sw_true rfl (rfl) ?_
  refine sw_seq ?_
  refine sl_region ?_
  refine sl_as rfl rfl rfl ?_
  refine sl_nil ?_
  refine sw_ret ⟨rfl, _, _, res_one rfl rfl, ?_, ⟨rfl, rfl⟩⟩
  repeat constructor

def LightSpec (e : Ex) : Prop := ∀ (q : Nat) (l d : Int) (σ : List Chunk), 0 ≤ l → l ≤ 1000 → -1 ≤ d → d ≤ 1000 →
  FSpec Tryd.prog 9 [.val (exV e), .ptr q 0, .val (.int .i64 d)] (.blk q [.val (.int .i64 l)] :: σ) (fun d' σ' => d' = .val (.bool (lightE e l d).1) ∧ σ' = .blk q [.val (.int .i64 (lightE e l d).2)] :: σ)

theorem light_no {k n : Int} {s : Txt} {a b : Ex} {l d : Int} (h : l - 1 < 0 ∨ d < 0 ∨ 50 < s.length) : lightE (.node k n s a b) l d = (false, l - 1) := by rw [lightE, if_pos h]
theorem light_yes {k n : Int} {s : Txt} {a b : Ex} {l d : Int} (h : ¬ (l - 1 < 0 ∨ d < 0 ∨ 50 < s.length)) (ha : (lightE a (l - 1) (d - 1)).1 = true) : lightE (.node k n s a b) l d = lightE b (lightE a (l - 1) (d - 1)).2 (d - 1) := by rw [lightE, if_neg h, if_pos ha]
theorem light_stop {k n : Int} {s : Txt} {a b : Ex} {l d : Int} (h : ¬ (l - 1 < 0 ∨ d < 0 ∨ 50 < s.length)) (ha : (lightE a (l - 1) (d - 1)).1 = false) : lightE (.node k n s a b) l d = (false, (lightE a (l - 1) (d - 1)).2) := by rw [lightE, if_neg h, if_neg (by rw [ha]; simp)]

theorem light_node (k n : Int) (s : Txt) (a b : Ex) (iha : LightSpec a) (ihb : LightSpec b) (q : Nat) (l d : Int) (σ : List Chunk) (h1 : 0 ≤ l) (h2 : l ≤ 1000) (h3 : -1 ≤ d) (h4 : d ≤ 1000) :
    FSpec Tryd.prog 9 [.val (.ref (.agg [.int .i64 k, .int .i64 n, .str s, exV a, exV b])), .ptr q 0, .val (.int .i64 d)] (.blk q [.val (.int .i64 l)] :: σ)
      (fun d' σ' => d' = .val (.bool (lightE (.node k n s a b) l d).1) ∧ σ' = .blk q [.val (.int .i64 (lightE (.node k n s a b) l d).2)] :: σ) := by
  refine spec_of_sw Tryd.func9 rfl ?_
  refine sw_seq ?_
  refine sl_region ?_
  refine sl_as rfl rfl rfl ?_
  refine sl_nil ?_
  refine sw_seq ?_
  refine sw_seq ?_
  refine sl_region ?_
  refine sl_mv rfl rfl rfl ?_
  refine sl_eq_nil rfl rfl rfl u_22 ?_
  refine sl_nil ?_
  refine sw_false rfl (rfl) ?_
  refine sw_skip ?_
  refine sw_seq ?_
  refine sl_region ?_
  refine sl_mv rfl rfl rfl ?_
  refine sl_nc rfl rfl rfl rfl ?_
  first
    | refine sl_load_rp1 rfl rfl rfl ag_3 rfl ?_
    | refine sl_load_blk1 rfl rfl rfl ag_3 (by repeat constructor) rfl ?_
  first
    | refine sl_sub_ rfl rfl rfl rfl (by constructor <;> omega) ?_
    | refine sl_bin rfl rfl rfl rfl rfl ?_
  refine sl_nc rfl rfl rfl rfl ?_
  refine sl_stp rfl rfl rfl rfl sz_3 rfl rfl rfl (by repeat constructor) (Nat.le_of_ble_eq_true rfl) ?_
  refine sl_nil ?_
  refine sw_seq ?_
  refine sw_seq ?_
  refine sl_region ?_
  refine sl_mv rfl rfl rfl ?_
  refine sl_nc rfl rfl rfl rfl ?_
  first
    | refine sl_load_rp1 rfl rfl rfl ag_3 rfl ?_
    | refine sl_load_blk1 rfl rfl rfl ag_3 (by repeat constructor) rfl ?_
  refine sl_bin rfl rfl rfl rfl rfl ?_
  refine sl_mv rfl rfl rfl ?_
  refine sl_case_at 18 rfl (fun g1 => ?_) (fun g1 => ?_)
  · have k1 : l - 1 < 0 := of_decide_eq_true g1
    refine sl_guard_n rfl rfl rfl g1 ?_
    refine sl_guard_n rfl rfl rfl g1 ?_
    refine sl_pk_t rfl rfl rfl g1 rfl ?_
    refine sl_mv rfl rfl rfl ?_
    refine sl_guard_n rfl rfl rfl (rfl) ?_
    refine sl_guard_n rfl rfl rfl (rfl) ?_
    refine sl_guard_n rfl rfl rfl (rfl) ?_
    refine sl_guard_n rfl rfl rfl (rfl) ?_
    refine sl_guard_n rfl rfl rfl (rfl) ?_
    refine sl_guard_n rfl rfl rfl (rfl) ?_
    refine sl_pk_t rfl rfl rfl (rfl) rfl ?_
    refine sl_nil ?_
    refine sw_true rfl (rfl) ?_
    refine sw_seq ?_
    refine sl_region ?_
    refine sl_as rfl rfl rfl ?_
    refine sl_nil ?_
    refine sw_ret ⟨rfl, _, _, res_one rfl rfl, ?_, ⟨by rw [light_no (.inl k1)]; rfl, by rw [light_no (.inl k1)]⟩⟩
    repeat constructor
  have k1 : ¬ l - 1 < 0 := of_decide_eq_false g1
  refine sl_guard_y rfl rfl rfl g1 ?_
  refine sl_mv rfl rfl rfl ?_
  refine sl_guard_y rfl rfl rfl g1 ?_
  refine sl_bin rfl rfl rfl rfl rfl ?_
  refine sl_pk_f rfl rfl rfl g1 rfl ?_
  refine sl_mv rfl rfl rfl ?_
  refine sl_case_at 22 rfl (fun g2 => ?_) (fun g2 => ?_)
  · have k2 : d < 0 := of_decide_eq_true g2
    refine sl_guard_n rfl rfl rfl g2 ?_
    refine sl_guard_n rfl rfl rfl g2 ?_
    refine sl_guard_n rfl rfl rfl g2 ?_
    refine sl_guard_n rfl rfl rfl g2 ?_
    refine sl_guard_n rfl rfl rfl g2 ?_
    refine sl_guard_n rfl rfl rfl g2 ?_
    refine sl_pk_t rfl rfl rfl g2 rfl ?_
    refine sl_nil ?_
    refine sw_true rfl (rfl) ?_
    refine sw_seq ?_
    refine sl_region ?_
    refine sl_as rfl rfl rfl ?_
    refine sl_nil ?_
    refine sw_ret ⟨rfl, _, _, res_one rfl rfl, ?_, ⟨by rw [light_no (.inr (.inl k2))]; rfl, by rw [light_no (.inr (.inl k2))]⟩⟩
    repeat constructor
  have k2 : ¬ d < 0 := of_decide_eq_false g2
  refine sl_guard_y rfl rfl rfl g2 ?_
  refine sl_mv rfl rfl rfl ?_
  refine sl_guard_y rfl rfl rfl g2 ?_
  refine sl_nc rfl rfl rfl rfl ?_
  refine sl_guard_y rfl rfl rfl g2 ?_
  first
    | refine sl_fieldAddr_ptr rfl rfl rfl fo_53_2 ?_
    | refine sl_fieldAddr_rp rfl rfl rfl fo_53_2 ?_
    | refine sl_fieldAddr_ref rfl rfl rfl fo_53_2 ?_
  refine sl_guard_y rfl rfl rfl g2 ?_
  first
    | refine sl_load_rp1 rfl rfl rfl ag_9 rfl ?_
    | refine sl_load_blk1 rfl rfl rfl ag_9 (by repeat constructor) rfl ?_
  refine sl_guard_y rfl rfl rfl g2 ?_
  refine sl_len_str rfl rfl rfl u_9 ?_
  refine sl_guard_y rfl rfl rfl g2 ?_
  refine sl_bin rfl rfl rfl rfl rfl ?_
  refine sl_pk_f rfl rfl rfl g2 rfl ?_
  refine sl_nil ?_
  refine sw_cond rfl (fun g3 => ?_) (fun g3 => ?_)
  · have k3 : 50 < s.length := by have := of_decide_eq_true g3; omega
    refine sw_seq ?_
    refine sl_region ?_
    refine sl_as rfl rfl rfl ?_
    refine sl_nil ?_
    refine sw_ret ⟨rfl, _, _, res_one rfl rfl, ?_, ⟨by rw [light_no (.inr (.inr k3))]; rfl, by rw [light_no (.inr (.inr k3))]⟩⟩
    repeat constructor
  have k3 : ¬ 50 < s.length := by have := of_decide_eq_false g3; omega
  have kn : ¬ (l - 1 < 0 ∨ d < 0 ∨ 50 < s.length) := by omega
  have hlow := light_low a (l - 1) (d - 1) (by omega)
  refine sw_skip ?_
  refine sw_seq ?_
  refine sl_region ?_
  refine sl_mv rfl rfl rfl ?_
  refine sl_nc rfl rfl rfl rfl ?_
  first
    | refine sl_fieldAddr_ptr rfl rfl rfl fo_53_3 ?_
    | refine sl_fieldAddr_rp rfl rfl rfl fo_53_3 ?_
    | refine sl_fieldAddr_ref rfl rfl rfl fo_53_3 ?_
  first
    | refine sl_load_rp1 rfl rfl rfl ag_22 rfl ?_
    | refine sl_load_blk1 rfl rfl rfl ag_22 (by repeat constructor) rfl ?_
  refine sl_mv rfl rfl rfl ?_
  refine sl_mv rfl rfl rfl ?_
  first
    | refine sl_sub_ rfl rfl rfl rfl (by constructor <;> omega) ?_
    | refine sl_bin rfl rfl rfl rfl rfl ?_
  refine sl_callf rfl rfl cal_9 (iha q (l - 1) (d - 1) σ (by omega) (by omega) (by omega) (by omega)) ?_ ?_ ?_ (fun _ _ h => h.elim)
  · repeat constructor
  · repeat constructor
  rintro _ _ ⟨rfl, rfl⟩
  refine sl_mv rfl rfl rfl ?_
  refine sl_case_at 38 rfl (fun g4 => ?_) (fun g4 => ?_)
  · have k4 : (lightE a (l - 1) (d - 1)).1 = true := g4
    have hlow3 := hlow.2.2 k4
    refine sl_guard_y rfl rfl rfl g4 ?_
    refine sl_mv rfl rfl rfl ?_
    refine sl_guard_y rfl rfl rfl g4 ?_
    refine sl_nc rfl rfl rfl rfl ?_
    refine sl_guard_y rfl rfl rfl g4 ?_
    first
      | refine sl_fieldAddr_ptr rfl rfl rfl fo_53_4 ?_
      | refine sl_fieldAddr_rp rfl rfl rfl fo_53_4 ?_
      | refine sl_fieldAddr_ref rfl rfl rfl fo_53_4 ?_
    refine sl_guard_y rfl rfl rfl g4 ?_
    first
      | refine sl_load_rp1 rfl rfl rfl ag_22 rfl ?_
      | refine sl_load_blk1 rfl rfl rfl ag_22 (by repeat constructor) rfl ?_
    refine sl_guard_y rfl rfl rfl g4 ?_
    refine sl_mv rfl rfl rfl ?_
    refine sl_guard_y rfl rfl rfl g4 ?_
    refine sl_mv rfl rfl rfl ?_
    refine sl_guard_y rfl rfl rfl g4 ?_
    first
      | refine sl_sub_ rfl rfl rfl rfl (by constructor <;> omega) ?_
      | refine sl_bin rfl rfl rfl rfl rfl ?_
    refine sl_guard_y rfl rfl rfl g4 ?_
    refine sl_callf rfl rfl cal_9 (ihb q (lightE a (l - 1) (d - 1)).2 (d - 1) σ (by omega) (by omega) (by omega) (by omega)) ?_ ?_ ?_ (fun _ _ h => h.elim)
    · repeat constructor
    · repeat constructor
    rintro _ _ ⟨rfl, rfl⟩
    refine sl_pk_t rfl rfl rfl g4 rfl ?_
    refine sl_as rfl rfl rfl ?_
    refine sl_nil ?_
    refine sw_ret ⟨rfl, _, _, res_one rfl rfl, ?_, ⟨by rw [light_yes kn k4]; rfl, by rw [light_yes kn k4]⟩⟩
    repeat constructor
  have k4 : (lightE a (l - 1) (d - 1)).1 = false := g4
  refine sl_guard_n rfl rfl rfl g4 ?_
  refine sl_guard_n rfl rfl rfl g4 ?_
  refine sl_guard_n rfl rfl rfl g4 ?_
  refine sl_guard_n rfl rfl rfl g4 ?_
  refine sl_guard_n rfl rfl rfl g4 ?_
  refine sl_guard_n rfl rfl rfl g4 ?_
  refine sl_guard_n rfl rfl rfl g4 ?_
  refine sl_guard_n rfl rfl rfl g4 ?_
  refine sl_pk_f rfl rfl rfl g4 rfl ?_
  refine sl_as rfl rfl rfl ?_
  refine sl_nil ?_
  refine sw_ret ⟨rfl, _, _, res_one rfl rfl, ?_, ⟨by rw [light_stop kn k4]; rfl, by rw [light_stop kn k4]⟩⟩
  repeat constructor

theorem light_ok : ∀ (e : Ex), LightSpec e
  | .nil => fun q l d σ _ _ _ _ => light_nil q l d σ
  | .node k n s a b => fun q l d σ h1 h2 h3 h4 => light_node k n s a b (light_ok a) (light_ok b) q l d σ h1 h2 h3 h4

end Go.Proofs.YtlolmemiedhhhaaDoor

/- Walks: printed by a program of this session out of its script PrE. -/
namespace Go.Proofs.YtlolmemiedhhhaaDoor
set_option linter.unusedVariables false
set_option linter.unusedSimpArgs false
set_option maxRecDepth 4000
set_option maxHeartbeats 4000000
open Go Go.RowKit SL


theorem repeat0_ok (s : Txt) (σ : List Chunk) : FSpec Tryd.prog 88 [.val (.str s), .val (.int .i64 0)] σ (fun d σ' => d = .val (.str []) ∧ σ' = σ) := by
  refine spec_of_sw Tryd.func88 rfl ?_
  refine sw_seq ?_
  refine sl_region ?_
  refine sl_as rfl rfl rfl ?_
  refine sl_nil ?_
  refine sw_seq ?_
  refine sw_seq ?_
  refine sl_region ?_
  refine sl_mv rfl rfl rfl ?_
  refine sl_nil ?_
  refine sw_block ?_
  refine sw_seq ?_
  refine sl_region ?_
  refine sl_bin rfl rfl rfl rfl rfl ?_
  refine sl_as rfl rfl rfl ?_
  refine sl_nil ?_
  refine sw_true rfl (rfl) ?_
  refine sw_seq ?_
  refine sl_region ?_
  refine sl_as rfl rfl rfl ?_
  refine sl_nil ?_
  refine sw_ret ⟨rfl, _, _, res_one rfl rfl, ?_, ⟨rfl, rfl⟩⟩
  repeat constructor

abbrev tyPr : TypeId := 115
/-- A line, where nothing is indented. -/
theorem put0_ok (q : Nat) (a : D) (ha : a = .val .nil ∨ a = .ptr q 0) (v : Value) (bs s : Txt) (note : D) (σ : List Chunk) (hl : bs.length + s.length ≤ 1000000) :
    FSpec Tryd.prog 59 [.ptr q 0, .val (.str s)] (.ty q tyPr 4 :: .blk q [a, .own v (bs.map byteV), .val (.int .i64 0), note] :: .row v 1 5 :: σ)
      (fun d σ' => ∃ v', d = .tup [] ∧ σ' = .ty q tyPr 4 :: .blk q [.ptr q 0, .own v' ((bs ++ (s ++ [10])).map byteV), .val (.int .i64 0), note] :: .row v' 1 5 :: σ) := by
  refine spec_of_sw Tryd.func59 rfl ?_
  refine sa_start [(q, 2, .int .i64 0)] mixed ?_
  refine sa_take 0 rfl rfl (by kernel_rfl) (by repeat constructor) (pu_mv rfl rfl) ?_
  refine sa_take 1 rfl rfl (by kernel_rfl) (by repeat constructor) (pu_nc rfl rfl rfl) ?_
  first
    | refine sa_take 2 rfl rfl (by kernel_rfl) (by repeat constructor) (pu_fieldAddr_ptr rfl rfl fo_113_0) ?_
    | refine sa_take 2 rfl rfl (by kernel_rfl) (by repeat constructor) (pu_fieldAddr_rp rfl rfl fo_113_0) ?_
    | refine sa_take 2 rfl rfl (by kernel_rfl) (by repeat constructor) (pu_fieldAddr_ref rfl rfl fo_113_0) ?_
  refine sa_take 3 rfl rfl (by kernel_rfl) (by repeat constructor) (pu_mv rfl rfl) ?_
  refine sa_take 4 rfl rfl (by kernel_rfl) (by repeat constructor) (pu_nc rfl rfl rfl) ?_
  first
    | refine sa_take 5 rfl rfl (by kernel_rfl) (by repeat constructor) (pu_fieldAddr_ptr rfl rfl fo_113_1) ?_
    | refine sa_take 5 rfl rfl (by kernel_rfl) (by repeat constructor) (pu_fieldAddr_rp rfl rfl fo_113_1) ?_
    | refine sa_take 5 rfl rfl (by kernel_rfl) (by repeat constructor) (pu_fieldAddr_ref rfl rfl fo_113_1) ?_
  first
    | refine sa_take 6 rfl rfl (by kernel_rfl) (by repeat constructor) (pu_load_rp1 rfl rfl ag_3 rfl) ?_
    | refine sa_take 6 rfl rfl (by kernel_rfl) (by repeat constructor) (pu_load_blk1 rfl rfl ag_3 (by repeat constructor) (by first | exact fun _ _ _ => .val _ _ (.int _ _) | exact fun _ _ _ => .val _ _ (.bool _) | exact fun _ _ _ => .ptr _ _ | assumption)) ?_
  refine sa_take 8 rfl rfl (by kernel_rfl) (by repeat constructor) (pu_mv rfl rfl) ?_
  refine sa_one 7 (by kernel_rfl) rfl ?_
  refine sl_callf rfl rfl cal_88 (repeat0_ok [9] (.ty q tyPr 4 :: .blk q [a, .own v (bs.map byteV), .val (.int .i64 0), note] :: .row v 1 5 :: σ)) ?_ ?_ ?_ (fun _ _ h => h.elim)
  · repeat constructor
  · repeat constructor
  rintro _ _ ⟨rfl, rfl⟩
  refine sl_nil ⟨(by repeat constructor), ?_⟩
  refine sa_one 9 (by kernel_rfl) rfl ?_
  refine sl_str_add rfl rfl rfl rfl (by simp only [List.length_nil]; omega) ?_
  refine sl_nil ⟨(by repeat constructor), ?_⟩
  refine sa_one 10 (by kernel_rfl) rfl ?_
  refine sl_str_add rfl rfl rfl rfl (by simp only [List.length_append, List.length_cons, List.length_nil]; omega) ?_
  refine sl_nil ⟨(by repeat constructor), ?_⟩
  refine sa_one 11 (by kernel_rfl) rfl ?_
  refine sl_callf rfl rfl cal_86 (bwrite_ok q tyPr 4 builderInPrinter a ha v bs (s ++ [10]) [.val (.int .i64 0), note] σ (by simp only [List.length_append, List.length_cons, List.length_nil]; omega)) ?_ ?_ ?_ (fun _ _ h => h.elim)
  · repeat constructor
  · repeat constructor
  rintro _ _ ⟨v1, rfl, rfl⟩
  refine sl_nil ⟨(by repeat constructor), ?_⟩
  refine sa_done (by kernel_rfl) ?_
  refine ⟨rfl, _, _, res_none rfl, ?_, ⟨v1, rfl, rfl⟩⟩
  repeat constructor

theorem cond_null_ok (s : Txt) (σ : List Chunk) (hl : s.length ≤ 1000) : FSpec Tryd.prog 19 [.val (.ref (.agg [.int .i64 9, .nil, .nil, .nil, .nil, .str s]))] σ (fun d σ' => d = .val (.str (s ++ [32, 61, 61, 32, 110, 117, 108, 108])) ∧ σ' = σ) := by
  refine spec_of_sw Tryd.func19 rfl ?_
  refine sw_seq ?_
  refine sl_region ?_
  refine sl_as rfl rfl rfl ?_
  refine sl_nil ?_
  refine sw_seq ?_
  refine sw_seq ?_
  refine sl_region ?_
  refine sl_mv rfl rfl rfl ?_
  refine sl_eq_nil rfl rfl rfl u_40 ?_
  refine sl_nil ?_
  refine sw_false rfl (rfl) ?_
  refine sw_skip ?_
  refine sw_seq ?_
  refine sw_seq ?_
  refine sl_region ?_
  refine sl_mv rfl rfl rfl ?_
  refine sl_nc rfl rfl rfl rfl ?_
  first
    | refine sl_fieldAddr_ptr rfl rfl rfl fo_55_0 ?_
    | refine sl_fieldAddr_rp rfl rfl rfl fo_55_0 ?_
    | refine sl_fieldAddr_ref rfl rfl rfl fo_55_0 ?_
  first
    | refine sl_load_rp1 rfl rfl rfl ag_3 rfl ?_
    | refine sl_load_blk1 rfl rfl rfl ag_3 (by repeat constructor) rfl ?_
  refine sl_nil ?_
  refine sw_block ?_
  refine sw_seq ?_
  refine sl_region ?_
  refine sl_bin rfl rfl rfl rfl rfl ?_
  refine sl_as rfl rfl rfl ?_
  refine sl_nil ?_
  refine sw_false rfl (rfl) ?_
  refine sw_seq ?_
  refine sl_region ?_
  refine sl_bin rfl rfl rfl rfl rfl ?_
  refine sl_as rfl rfl rfl ?_
  refine sl_nil ?_
  refine sw_false rfl (rfl) ?_
  refine sw_seq ?_
  refine sl_region ?_
  refine sl_bin rfl rfl rfl rfl rfl ?_
  refine sl_as rfl rfl rfl ?_
  refine sl_nil ?_
  refine sw_true rfl (rfl) ?_
  refine sw_seq ?_
  refine sl_region ?_
  refine sl_mv rfl rfl rfl ?_
  refine sl_nc rfl rfl rfl rfl ?_
  first
    | refine sl_fieldAddr_ptr rfl rfl rfl fo_55_5 ?_
    | refine sl_fieldAddr_rp rfl rfl rfl fo_55_5 ?_
    | refine sl_fieldAddr_ref rfl rfl rfl fo_55_5 ?_
  first
    | refine sl_load_rp1 rfl rfl rfl ag_9 rfl ?_
    | refine sl_load_blk1 rfl rfl rfl ag_9 (by repeat constructor) rfl ?_
  refine sl_str_add rfl rfl rfl rfl (by simp only [List.length_cons, List.length_nil]; omega) ?_
  refine sl_as rfl rfl rfl ?_
  refine sl_nil ?_
  refine sw_ret ⟨rfl, _, _, res_one rfl rfl, ?_, ⟨rfl, rfl⟩⟩
  repeat constructor

def cellT : Txt := [99, 101, 108, 108, 32, 99, 59]
def preG (k : Nat) : Txt := if k = 0 then [] else [] ++ (cellT ++ [10])

theorem globals_ok (σ : List Chunk) : FSpec Tryd.prog 27 [.val (.agg [.list [.str [99]], .list []])] σ (fun d σ' => d = .val (.str (preG 1)) ∧ σ' = σ) := by
  refine spec_of_sw Tryd.func27 rfl ?_
  refine sw_seq ?_
  refine sl_region ?_
  refine sl_bx_imm rfl rfl rfl rfl rfl ?_
  refine sl_as rfl rfl rfl ?_
  refine sl_nil ?_
  refine sw_seq ?_
  refine sl_region ?_
  refine sl_bd rfl rfl .nil bi_115 zd_115 rfl ?_
  refine sl_bx_ty rfl rfl rfl rfl (fun b9 => ?_)
  refine sl_as rfl rfl rfl ?_
  refine sl_nil ?_
  refine sw_seq ?_
  refine sw_seq ?_
  refine sl_region ?_
  first
    | refine sl_fieldAddr_ptr rfl rfl rfl fo_60_0 ?_
    | refine sl_fieldAddr_rp rfl rfl rfl fo_60_0 ?_
    | refine sl_fieldAddr_ref rfl rfl rfl fo_60_0 ?_
  first
    | refine sl_load_rp1 rfl rfl rfl ag_57 rfl ?_
    | refine sl_load_blk1 rfl rfl rfl ag_57 (by repeat constructor) rfl ?_
  first
    | refine sl_len rfl rfl rfl ⟨_, u_57⟩ ?_
    | refine sl_len_sl rfl rfl rfl ⟨_, u_57⟩ ?_
    | refine sl_len_w _ rfl rfl rfl ⟨_, u_57⟩ ?_
  refine sl_mv rfl rfl rfl ?_
  refine sl_nil ?_
  refine sw_block ?_
  refine sw_less (σ' := .blk b9 [.val .nil, .fix [], .val (.int .i64 0), .val .nilFunc] :: .ty b9 tyPr 4 :: σ) (by repeat constructor) ?_
  refine sw_own_row (i := 1) (sz := 1) (e := 5) rfl (fun v0 => ?_)
  refine sw_loopw (fun nX sX δX σX => ∃ (k : Nat) (v : Value) (a : D), (1 - k) = nX ∧ sX = ⟨51, (.cons 1 (.rp [.list [.str [99]], .list []]) (.cons 3 (.ptr b9 0) (.cons 11 (.val (.list [.str [99]])) (.cons 12 (.val (.int .i64 1)) (.cons 13 (.val (.int .i64 (k : Int))) .nil)))))⟩ ∧ δX = [] ∧ σX = .ty b9 tyPr 4 :: .blk b9 [a, .own v ((preG k).map byteV), .val (.int .i64 0), .val .nilFunc] :: .row v 1 5 :: σ ∧ (k ≤ 1) ∧ (a = .val .nil ∨ a = .ptr b9 0)) ?_ ?_
  · refine ⟨_, _, _, ?_, ?_, 0, v0, .val .nil, rfl, rfl, rfl, rfl, (Nat.zero_le _), (.inl rfl)⟩
    · exact ⟨rfl, by repeat constructor⟩
    · repeat constructor
  rintro nX sX δX σX ⟨k, v, a, rfl, rfl, rfl, rfl, hk0, ha⟩
  refine sw_seq ?_
  refine sl_region ?_
  refine sl_bin rfl rfl rfl rfl rfl ?_
  refine sl_nil ?_
  refine sw_seq ?_
  refine sw_cond rfl (fun hk => ?_) (fun hk => ?_)
  · have hk : k = 0 := by have := of_decide_eq_true hk; omega
    subst hk
    refine sw_skip ?_
    refine sw_seq ?_
    refine sw_block ?_
    refine sw_seq ?_
    refine sl_region ?_
    refine sl_indexAddr' rfl rfl rfl rfl u_57 sz_9 (by decide) rfl rfl ?_
    first
      | refine sl_load_rp1 rfl rfl rfl ag_9 rfl ?_
      | refine sl_load_blk1 rfl rfl rfl ag_9 (by repeat constructor) rfl ?_
    refine sl_as rfl rfl rfl ?_
    refine sl_nil ?_
    refine sl_region ?_
    refine sl_mv rfl rfl rfl ?_
    refine sl_nc rfl rfl rfl rfl ?_
    first
      | refine sl_fieldAddr_ptr rfl rfl rfl fo_115_0 ?_
      | refine sl_fieldAddr_rp rfl rfl rfl fo_115_0 ?_
      | refine sl_fieldAddr_ref rfl rfl rfl fo_115_0 ?_
    refine sl_mv rfl rfl rfl ?_
    refine sl_str_add rfl rfl rfl rfl (by decide) ?_
    refine sl_str_add rfl rfl rfl rfl (by decide) ?_
    refine sl_callf rfl rfl cal_59 (put0_ok b9 a ha v [] cellT (.val .nilFunc) σ (by decide)) ?_ ?_ ?_ (fun _ _ h => h.elim)
    · repeat constructor
    · repeat constructor
    rintro _ _ ⟨v1, rfl, rfl⟩
    refine sl_nil ?_
    refine sl_region ?_
    first
      | refine sl_inc rfl rfl rfl rfl (by omega) ?_
      | refine sl_add rfl rfl rfl rfl (by constructor <;> omega) ?_
      | refine sl_bin rfl rfl rfl rfl rfl ?_
    refine sl_mv rfl rfl rfl ?_
    refine sl_nil ?_
    refine ⟨_, by omega, _, _, ?_, ?_, 1, v1, .ptr b9 0, rfl, rfl, rfl, rfl, (by omega), (.inr rfl)⟩
    · exact ⟨rfl, by repeat constructor⟩
    · repeat constructor
  have hk : k = 1 := by have := of_decide_eq_false hk; omega
  subst hk
  refine sw_exit ?_
  refine sw_seq ?_
  refine sw_seq ?_
  refine sl_region ?_
  first
    | refine sl_fieldAddr_ptr rfl rfl rfl fo_60_1 ?_
    | refine sl_fieldAddr_rp rfl rfl rfl fo_60_1 ?_
    | refine sl_fieldAddr_ref rfl rfl rfl fo_60_1 ?_
  first
    | refine sl_load_rp1 rfl rfl rfl ag_58 rfl ?_
    | refine sl_load_blk1 rfl rfl rfl ag_58 (by repeat constructor) rfl ?_
  first
    | refine sl_len rfl rfl rfl ⟨_, u_58⟩ ?_
    | refine sl_len_sl rfl rfl rfl ⟨_, u_58⟩ ?_
    | refine sl_len_w _ rfl rfl rfl ⟨_, u_58⟩ ?_
  refine sl_mv rfl rfl rfl ?_
  refine sl_nil ?_
  refine sw_block ?_
  refine sw_loopw (fun nX sX δX σX => ∃ (j : Nat), (0) = nX ∧ sX = ⟨51, (.cons 3 (.ptr b9 0) (.cons 26 (.val (.list [])) (.cons 27 (.val (.int .i64 0)) (.cons 28 (.val (.int .i64 (j : Int))) .nil))))⟩ ∧ δX = [] ∧ σX = .ty b9 tyPr 4 :: .blk b9 [a, .own v ((preG 1).map byteV), .val (.int .i64 0), .val .nilFunc] :: .row v 1 5 :: σ ∧ (j = 0)) ?_ ?_
  · refine ⟨_, _, _, ?_, ?_, 0, rfl, rfl, rfl, rfl, (rfl)⟩
    · exact ⟨rfl, by repeat constructor⟩
    · repeat constructor
  rintro nX sX δX σX ⟨j, rfl, rfl, rfl, rfl, hj0⟩
  subst hj0
  refine sw_seq ?_
  refine sl_region ?_
  refine sl_bin rfl rfl rfl rfl rfl ?_
  refine sl_nil ?_
  refine sw_seq ?_
  refine sw_false rfl (rfl) ?_
  refine sw_exit ?_
  refine sw_seq ?_
  refine sl_region ?_
  refine sl_mv rfl rfl rfl ?_
  refine sl_nc rfl rfl rfl rfl ?_
  first
    | refine sl_fieldAddr_ptr rfl rfl rfl fo_115_0 ?_
    | refine sl_fieldAddr_rp rfl rfl rfl fo_115_0 ?_
    | refine sl_fieldAddr_ref rfl rfl rfl fo_115_0 ?_
  first
    | refine sl_fieldAddr_ptr rfl rfl rfl fo_113_0 ?_
    | refine sl_fieldAddr_rp rfl rfl rfl fo_113_0 ?_
    | refine sl_fieldAddr_ref rfl rfl rfl fo_113_0 ?_
  refine sl_callf rfl rfl cal_61 (bstring_ok b9 a v (preG 1) [.val (.int .i64 0), .val .nilFunc] (.ty b9 tyPr 4 :: σ) (by decide) (by decide)) ?_ ?_ ?_ (fun _ _ h => h.elim)
  · repeat constructor
  · repeat constructor
  rintro _ _ ⟨rfl, rfl⟩
  refine sl_as rfl rfl rfl ?_
  refine sl_nil ?_
  refine sw_ret ⟨rfl, _, _, res_one rfl rfl, ?_, ⟨rfl, rfl⟩⟩
  repeat constructor

theorem block0_ok (q : Nat) (a b note : D) (σ : List Chunk) : FSpec Tryd.prog 76 [.ptr q 0, .val (.list [])] (.blk q [a, b, .val (.int .i64 0), note] :: σ) (fun d σ' => d = .tup [] ∧ σ' = .blk q [a, b, .val (.int .i64 0), note] :: σ) := by
  refine spec_of_sw Tryd.func76 rfl ?_
  refine sw_seq ?_
  refine sl_region ?_
  refine sl_mv rfl rfl rfl ?_
  refine sl_nc rfl rfl rfl rfl ?_
  first
    | refine sl_fieldAddr_ptr rfl rfl rfl fo_115_0 ?_
    | refine sl_fieldAddr_rp rfl rfl rfl fo_115_0 ?_
    | refine sl_fieldAddr_ref rfl rfl rfl fo_115_0 ?_
  first
    | refine sl_fieldAddr_ptr rfl rfl rfl fo_113_1 ?_
    | refine sl_fieldAddr_rp rfl rfl rfl fo_113_1 ?_
    | refine sl_fieldAddr_ref rfl rfl rfl fo_113_1 ?_
  first
    | refine sl_load_rp1 rfl rfl rfl ag_3 rfl ?_
    | refine sl_load_blk1 rfl rfl rfl ag_3 (by repeat constructor) rfl ?_
  first
    | refine sl_inc rfl rfl rfl rfl (by omega) ?_
    | refine sl_add rfl rfl rfl rfl (by constructor <;> omega) ?_
    | refine sl_bin rfl rfl rfl rfl rfl ?_
  refine sl_nc rfl rfl rfl rfl ?_
  first
    | refine sl_fieldAddr_ptr rfl rfl rfl fo_115_0 ?_
    | refine sl_fieldAddr_rp rfl rfl rfl fo_115_0 ?_
    | refine sl_fieldAddr_ref rfl rfl rfl fo_115_0 ?_
  first
    | refine sl_fieldAddr_ptr rfl rfl rfl fo_113_1 ?_
    | refine sl_fieldAddr_rp rfl rfl rfl fo_113_1 ?_
    | refine sl_fieldAddr_ref rfl rfl rfl fo_113_1 ?_
  refine sl_stp rfl rfl rfl rfl sz_3 rfl rfl rfl (by repeat constructor) (Nat.le_of_ble_eq_true rfl) ?_
  refine sl_nil ?_
  refine sw_seq ?_
  refine sw_seq ?_
  refine sl_region ?_
  refine sl_mv rfl rfl rfl ?_
  first
    | refine sl_len rfl rfl rfl ⟨_, u_30⟩ ?_
    | refine sl_len_sl rfl rfl rfl ⟨_, u_30⟩ ?_
    | refine sl_len_w _ rfl rfl rfl ⟨_, u_30⟩ ?_
  refine sl_mv rfl rfl rfl ?_
  refine sl_nil ?_
  refine sw_block ?_
  refine sw_loopw (fun nX sX δX σX => ∃ (j : Nat), (0) = nX ∧ sX = ⟨34, (.cons 0 (.ptr q 0) (.cons 15 (.val (.list [])) (.cons 16 (.val (.int .i64 0)) (.cons 17 (.val (.int .i64 (j : Int))) .nil))))⟩ ∧ δX = [] ∧ σX = .blk q [a, b, .val (.int .i64 1), note] :: σ ∧ (j = 0)) ?_ ?_
  · refine ⟨_, _, _, ?_, ?_, 0, rfl, rfl, rfl, rfl, (rfl)⟩
    · exact ⟨rfl, by repeat constructor⟩
    · repeat constructor
  rintro nX sX δX σX ⟨j, rfl, rfl, rfl, rfl, hj0⟩
  subst hj0
  refine sw_seq ?_
  refine sl_region ?_
  refine sl_bin rfl rfl rfl rfl rfl ?_
  refine sl_nil ?_
  refine sw_seq ?_
  refine sw_false rfl (rfl) ?_
  refine sw_exit ?_
  refine sl_region ?_
  refine sl_mv rfl rfl rfl ?_
  refine sl_nc rfl rfl rfl rfl ?_
  first
    | refine sl_fieldAddr_ptr rfl rfl rfl fo_115_0 ?_
    | refine sl_fieldAddr_rp rfl rfl rfl fo_115_0 ?_
    | refine sl_fieldAddr_ref rfl rfl rfl fo_115_0 ?_
  first
    | refine sl_fieldAddr_ptr rfl rfl rfl fo_113_1 ?_
    | refine sl_fieldAddr_rp rfl rfl rfl fo_113_1 ?_
    | refine sl_fieldAddr_ref rfl rfl rfl fo_113_1 ?_
  first
    | refine sl_load_rp1 rfl rfl rfl ag_3 rfl ?_
    | refine sl_load_blk1 rfl rfl rfl ag_3 (by repeat constructor) rfl ?_
  first
    | refine sl_sub_ rfl rfl rfl rfl (by constructor <;> omega) ?_
    | refine sl_bin rfl rfl rfl rfl rfl ?_
  refine sl_nc rfl rfl rfl rfl ?_
  first
    | refine sl_fieldAddr_ptr rfl rfl rfl fo_115_0 ?_
    | refine sl_fieldAddr_rp rfl rfl rfl fo_115_0 ?_
    | refine sl_fieldAddr_ref rfl rfl rfl fo_115_0 ?_
  first
    | refine sl_fieldAddr_ptr rfl rfl rfl fo_113_1 ?_
    | refine sl_fieldAddr_rp rfl rfl rfl fo_113_1 ?_
    | refine sl_fieldAddr_ref rfl rfl rfl fo_113_1 ?_
  refine sl_stp rfl rfl rfl rfl sz_3 rfl rfl rfl (by repeat constructor) (Nat.le_of_ble_eq_true rfl) ?_
  refine sl_nil ?_
  refine ⟨rfl, _, _, res_none rfl, ?_, ⟨rfl, rfl⟩⟩
  repeat constructor

def fnT : Txt := [102, 110, 32, 102, 40, 41, 32, 123]
theorem noted0_ok (σ : List Chunk) : FSpec Tryd.prog 49 [.val (.agg [.str [102], .list [], .list [], .list []]), .func 50 []] σ (fun d σ' => d = .val (.str (fnT ++ [10] ++ [125, 10])) ∧ σ' = σ) := by
  refine spec_of_sw Tryd.func49 rfl ?_
  refine sw_seq ?_
  refine sl_region ?_
  refine sl_bx_imm rfl rfl rfl rfl rfl ?_
  refine sl_as rfl rfl rfl ?_
  refine sl_nil ?_
  refine sw_seq ?_
  refine sl_region ?_
  refine sl_mv rfl rfl rfl ?_
  refine sl_bd rfl rfl (.cons rfl .nil) bi_113 zd_113 rfl ?_
  refine sl_bd rfl rfl (.cons rfl .nil) bi_115 zd_115 rfl ?_
  refine sl_bx_ty rfl rfl rfl rfl (fun b14 => ?_)
  refine sl_as rfl rfl rfl ?_
  refine sl_nil ?_
  refine sw_seq ?_
  refine sl_region ?_
  refine sl_as rfl rfl rfl ?_
  refine sl_nil ?_
  refine sw_seq ?_
  refine sw_seq ?_
  refine sl_region ?_
  first
    | refine sl_fieldAddr_ptr rfl rfl rfl fo_32_1 ?_
    | refine sl_fieldAddr_rp rfl rfl rfl fo_32_1 ?_
    | refine sl_fieldAddr_ref rfl rfl rfl fo_32_1 ?_
  first
    | refine sl_load_rp1 rfl rfl rfl ag_29 rfl ?_
    | refine sl_load_blk1 rfl rfl rfl ag_29 (by repeat constructor) rfl ?_
  first
    | refine sl_len rfl rfl rfl ⟨_, u_29⟩ ?_
    | refine sl_len_sl rfl rfl rfl ⟨_, u_29⟩ ?_
    | refine sl_len_w _ rfl rfl rfl ⟨_, u_29⟩ ?_
  refine sl_mv rfl rfl rfl ?_
  refine sl_nil ?_
  refine sw_block ?_
  refine sw_less (σ' := .blk b14 [.val .nil, .fix [], .val (.int .i64 0), .func 50 []] :: .ty b14 tyPr 4 :: σ) (by repeat constructor) ?_
  refine sw_own_row (i := 1) (sz := 1) (e := 5) rfl (fun v0 => ?_)
  refine sw_loopw (fun nX sX δX σX => ∃ (j : Nat), (0) = nX ∧ sX = ⟨105, (.cons 2 (.rp [.str [102], .list [], .list [], .list []]) (.cons 5 (.ptr b14 0) (.cons 6 (.val (.list [])) (.cons 16 (.val (.list [])) (.cons 17 (.val (.int .i64 0)) (.cons 18 (.val (.int .i64 (j : Int))) .nil))))))⟩ ∧ δX = [] ∧ σX = .ty b14 tyPr 4 :: .blk b14 [.val .nil, .own v0 (([] : Txt).map byteV), .val (.int .i64 0), .func 50 []] :: .row v0 1 5 :: σ ∧ (j = 0)) ?_ ?_
  · refine ⟨_, _, _, ?_, ?_, 0, rfl, rfl, rfl, rfl, (rfl)⟩
    · exact ⟨rfl, by repeat constructor⟩
    · repeat constructor
  rintro nX sX δX σX ⟨j, rfl, rfl, rfl, rfl, hj0⟩
  subst hj0
  refine sw_seq ?_
  refine sl_region ?_
  refine sl_bin rfl rfl rfl rfl rfl ?_
  refine sl_nil ?_
  refine sw_seq ?_
  refine sw_false rfl (rfl) ?_
  refine sw_exit ?_
  refine sw_seq ?_
  refine sa_start [] mixed ?_
  refine sa_take 0 rfl rfl (by kernel_rfl) .nil (pu_mv rfl rfl) ?_
  refine sa_take 1 rfl rfl (by kernel_rfl) .nil (pu_nc rfl rfl rfl) ?_
  first
    | refine sa_take 2 rfl rfl (by kernel_rfl) .nil (pu_fieldAddr_ptr rfl rfl fo_115_0) ?_
    | refine sa_take 2 rfl rfl (by kernel_rfl) .nil (pu_fieldAddr_rp rfl rfl fo_115_0) ?_
    | refine sa_take 2 rfl rfl (by kernel_rfl) .nil (pu_fieldAddr_ref rfl rfl fo_115_0) ?_
  first
    | refine sa_take 3 rfl rfl (by kernel_rfl) .nil (pu_fieldAddr_ptr rfl rfl fo_32_0) ?_
    | refine sa_take 3 rfl rfl (by kernel_rfl) .nil (pu_fieldAddr_rp rfl rfl fo_32_0) ?_
    | refine sa_take 3 rfl rfl (by kernel_rfl) .nil (pu_fieldAddr_ref rfl rfl fo_32_0) ?_
  refine sa_take 4 rfl rfl (by kernel_rfl) .nil (pu_load_rp1 rfl rfl ag_9 rfl) ?_
  refine sa_take 7 rfl rfl (by kernel_rfl) .nil (pu_mv rfl rfl) ?_
  apply sa_conf [.p 5 (some 41) [] _, .p 6 (some 42) [0] _, .p 8 (some 44) [] _] (I := [(5, []), (6, [0]), (8, [])]) (nT := 3) rfl rfl rfl (by kernel_rfl) .nil
  · refine (.cons ?_ (.cons ?_ (.cons ?_ .nil)))
    · apply StepOk.p
      iterate 3 rfl
      intro β σX hσX
      refine sl_str_add rfl rfl rfl rfl (by decide) ?_
      exact sl_nil ⟨rfl, rfl, rfl, rfl⟩
    · apply StepOk.p
      iterate 3 rfl
      intro β σX hσX
      show SL _ _ _ _ (sput _ (some 41) _) _ _
      refine sl_str_add rfl rfl rfl rfl (by decide) ?_
      exact sl_nil ⟨rfl, rfl, rfl, rfl⟩
    · apply StepOk.p
      iterate 3 rfl
      intro β σX hσX
      refine sl_callp rfl rfl cal_75 (join_none [44, 32]) ?_ ?_
      · repeat constructor
      exact sl_nil ⟨rfl, rfl, rfl, rfl⟩
  refine contT_p (contT_p (contT_p (contT_nil ?_)))
  refine sa_one 9 (by kernel_rfl) rfl ?_
  refine sl_str_add rfl rfl rfl rfl (by decide) ?_
  refine sl_nil ⟨.nil, ?_⟩
  refine sa_one 10 (by kernel_rfl) rfl ?_
  refine sl_str_add rfl rfl rfl rfl (by decide) ?_
  refine sl_nil ⟨.nil, ?_⟩
  refine sa_one 11 (by kernel_rfl) rfl ?_
  refine sl_callf rfl rfl cal_59 (put0_ok b14 (.val .nil) (.inl rfl) v0 [] fnT (.func 50 []) σ (by decide)) ?_ ?_ ?_ (fun _ _ h => h.elim)
  · repeat constructor
  · repeat constructor
  rintro _ _ ⟨v1, rfl, rfl⟩
  refine sl_nil ⟨.nil, ?_⟩
  refine sa_done (by kernel_rfl) ?_
  refine sw_seq ?_
  refine sl_region ?_
  refine sl_mv rfl rfl rfl ?_
  refine sl_nc rfl rfl rfl rfl ?_
  first
    | refine sl_fieldAddr_ptr rfl rfl rfl fo_115_0 ?_
    | refine sl_fieldAddr_rp rfl rfl rfl fo_115_0 ?_
    | refine sl_fieldAddr_ref rfl rfl rfl fo_115_0 ?_
  first
    | refine sl_fieldAddr_ptr rfl rfl rfl fo_113_1 ?_
    | refine sl_fieldAddr_rp rfl rfl rfl fo_113_1 ?_
    | refine sl_fieldAddr_ref rfl rfl rfl fo_113_1 ?_
  first
    | refine sl_load_rp1 rfl rfl rfl ag_3 rfl ?_
    | refine sl_load_blk1 rfl rfl rfl ag_3 (by repeat constructor) rfl ?_
  first
    | refine sl_inc rfl rfl rfl rfl (by omega) ?_
    | refine sl_add rfl rfl rfl rfl (by constructor <;> omega) ?_
    | refine sl_bin rfl rfl rfl rfl rfl ?_
  refine sl_nc rfl rfl rfl rfl ?_
  first
    | refine sl_fieldAddr_ptr rfl rfl rfl fo_115_0 ?_
    | refine sl_fieldAddr_rp rfl rfl rfl fo_115_0 ?_
    | refine sl_fieldAddr_ref rfl rfl rfl fo_115_0 ?_
  first
    | refine sl_fieldAddr_ptr rfl rfl rfl fo_113_1 ?_
    | refine sl_fieldAddr_rp rfl rfl rfl fo_113_1 ?_
    | refine sl_fieldAddr_ref rfl rfl rfl fo_113_1 ?_
  refine sl_stp rfl rfl rfl rfl sz_3 rfl rfl rfl (by repeat constructor) (Nat.le_of_ble_eq_true rfl) ?_
  refine sl_nil ?_
  refine sw_seq ?_
  refine sw_seq ?_
  refine sl_region ?_
  first
    | refine sl_fieldAddr_ptr rfl rfl rfl fo_32_2 ?_
    | refine sl_fieldAddr_rp rfl rfl rfl fo_32_2 ?_
    | refine sl_fieldAddr_ref rfl rfl rfl fo_32_2 ?_
  first
    | refine sl_load_rp1 rfl rfl rfl ag_29 rfl ?_
    | refine sl_load_blk1 rfl rfl rfl ag_29 (by repeat constructor) rfl ?_
  first
    | refine sl_len rfl rfl rfl ⟨_, u_29⟩ ?_
    | refine sl_len_sl rfl rfl rfl ⟨_, u_29⟩ ?_
    | refine sl_len_w _ rfl rfl rfl ⟨_, u_29⟩ ?_
  refine sl_mv rfl rfl rfl ?_
  refine sl_nil ?_
  refine sw_block ?_
  refine sw_loopw (fun nX sX δX σX => ∃ (i : Nat), (0) = nX ∧ sX = ⟨105, (.cons 2 (.rp [.str [102], .list [], .list [], .list []]) (.cons 5 (.ptr b14 0) (.cons 58 (.val (.list [])) (.cons 59 (.val (.int .i64 0)) (.cons 60 (.val (.int .i64 (i : Int))) .nil)))))⟩ ∧ δX = [] ∧ σX = .ty b14 tyPr 4 :: .blk b14 [.ptr b14 0, .own v1 (([] ++ (fnT ++ [10]) : Txt).map byteV), .val (.int .i64 1), .func 50 []] :: .row v1 1 5 :: σ ∧ (i = 0)) ?_ ?_
  · refine ⟨_, _, _, ?_, ?_, 0, rfl, rfl, rfl, rfl, (rfl)⟩
    · exact ⟨rfl, by repeat constructor⟩
    · repeat constructor
  rintro nX sX δX σX ⟨i, rfl, rfl, rfl, rfl, hi0⟩
  subst hi0
  refine sw_seq ?_
  refine sl_region ?_
  refine sl_bin rfl rfl rfl rfl rfl ?_
  refine sl_nil ?_
  refine sw_seq ?_
  refine sw_false rfl (rfl) ?_
  refine sw_exit ?_
  refine sw_seq ?_
  refine sl_region ?_
  refine sl_mv rfl rfl rfl ?_
  refine sl_nc rfl rfl rfl rfl ?_
  first
    | refine sl_fieldAddr_ptr rfl rfl rfl fo_115_0 ?_
    | refine sl_fieldAddr_rp rfl rfl rfl fo_115_0 ?_
    | refine sl_fieldAddr_ref rfl rfl rfl fo_115_0 ?_
  first
    | refine sl_fieldAddr_ptr rfl rfl rfl fo_113_1 ?_
    | refine sl_fieldAddr_rp rfl rfl rfl fo_113_1 ?_
    | refine sl_fieldAddr_ref rfl rfl rfl fo_113_1 ?_
  first
    | refine sl_load_rp1 rfl rfl rfl ag_3 rfl ?_
    | refine sl_load_blk1 rfl rfl rfl ag_3 (by repeat constructor) rfl ?_
  first
    | refine sl_sub_ rfl rfl rfl rfl (by constructor <;> omega) ?_
    | refine sl_bin rfl rfl rfl rfl rfl ?_
  refine sl_nc rfl rfl rfl rfl ?_
  first
    | refine sl_fieldAddr_ptr rfl rfl rfl fo_115_0 ?_
    | refine sl_fieldAddr_rp rfl rfl rfl fo_115_0 ?_
    | refine sl_fieldAddr_ref rfl rfl rfl fo_115_0 ?_
  first
    | refine sl_fieldAddr_ptr rfl rfl rfl fo_113_1 ?_
    | refine sl_fieldAddr_rp rfl rfl rfl fo_113_1 ?_
    | refine sl_fieldAddr_ref rfl rfl rfl fo_113_1 ?_
  refine sl_stp rfl rfl rfl rfl sz_3 rfl rfl rfl (by repeat constructor) (Nat.le_of_ble_eq_true rfl) ?_
  refine sl_nil ?_
  refine sw_seq ?_
  refine sl_region ?_
  refine sl_mv rfl rfl rfl ?_
  first
    | refine sl_fieldAddr_ptr rfl rfl rfl fo_32_3 ?_
    | refine sl_fieldAddr_rp rfl rfl rfl fo_32_3 ?_
    | refine sl_fieldAddr_ref rfl rfl rfl fo_32_3 ?_
  first
    | refine sl_load_rp1 rfl rfl rfl ag_30 rfl ?_
    | refine sl_load_blk1 rfl rfl rfl ag_30 (by repeat constructor) rfl ?_
  refine sl_callf rfl rfl cal_76 (block0_ok b14 (.ptr b14 0) (.own v1 (([] ++ (fnT ++ [10]) : Txt).map byteV)) (.func 50 []) (.ty b14 tyPr 4 :: .row v1 1 5 :: σ)) ?_ ?_ ?_ (fun _ _ h => h.elim)
  · repeat constructor
  · repeat constructor
  rintro _ _ ⟨rfl, rfl⟩
  refine sl_nil ?_
  refine sw_seq ?_
  refine sl_region ?_
  refine sl_mv rfl rfl rfl ?_
  refine sl_nc rfl rfl rfl rfl ?_
  first
    | refine sl_fieldAddr_ptr rfl rfl rfl fo_115_0 ?_
    | refine sl_fieldAddr_rp rfl rfl rfl fo_115_0 ?_
    | refine sl_fieldAddr_ref rfl rfl rfl fo_115_0 ?_
  refine sl_callf rfl rfl cal_59 (put0_ok b14 (.ptr b14 0) (.inr rfl) v1 ([] ++ (fnT ++ [10])) [125] (.func 50 []) σ (by decide)) ?_ ?_ ?_ (fun _ _ h => h.elim)
  · repeat constructor
  · repeat constructor
  rintro _ _ ⟨v2, rfl, rfl⟩
  refine sl_nil ?_
  refine sw_seq ?_
  refine sl_region ?_
  refine sl_mv rfl rfl rfl ?_
  refine sl_nc rfl rfl rfl rfl ?_
  first
    | refine sl_fieldAddr_ptr rfl rfl rfl fo_115_0 ?_
    | refine sl_fieldAddr_rp rfl rfl rfl fo_115_0 ?_
    | refine sl_fieldAddr_ref rfl rfl rfl fo_115_0 ?_
  first
    | refine sl_fieldAddr_ptr rfl rfl rfl fo_113_0 ?_
    | refine sl_fieldAddr_rp rfl rfl rfl fo_113_0 ?_
    | refine sl_fieldAddr_ref rfl rfl rfl fo_113_0 ?_
  refine sl_callf rfl rfl cal_61 (bstring_ok b14 (.ptr b14 0) v2 ([] ++ (fnT ++ [10]) ++ ([125] ++ [10])) [.val (.int .i64 0), .func 50 []] (.ty b14 tyPr 4 :: σ) (by decide) (by decide)) ?_ ?_ ?_ (fun _ _ h => h.elim)
  · repeat constructor
  · repeat constructor
  rintro _ _ ⟨rfl, rfl⟩
  refine sl_as rfl rfl rfl ?_
  refine sl_nil ?_
  refine sw_ret ⟨rfl, _, _, res_one rfl rfl, ?_, ⟨rfl, rfl⟩⟩
  repeat constructor

theorem func0_ok (σ : List Chunk) : FSpec Tryd.prog 16 [.val (.agg [.str [102], .list [], .list [], .list []])] σ (fun d σ' => d = .val (.str (fnT ++ [10] ++ [125, 10])) ∧ σ' = σ) := by
  refine spec_of_sw Tryd.func16 rfl ?_
  refine sw_seq ?_
  refine sl_region ?_
  refine sl_bx_imm rfl rfl rfl rfl rfl ?_
  refine sl_as rfl rfl rfl ?_
  refine sl_nil ?_
  refine sw_seq ?_
  refine sl_region ?_
  first
    | refine sl_load_rpn rfl rfl rfl ag_32 sz_32 (Nat.le_of_ble_eq_true rfl) ?_
    | refine sl_load_blkn rfl rfl rfl ag_32 sz_32 (by repeat constructor) (Nat.le_of_ble_eq_true rfl) ?_
    | refine sl_load_ref rfl rfl rfl ag_32 sz_32 (Nat.le_of_ble_eq_true rfl) ?_
  refine sl_callf rfl rfl cal_49 (noted0_ok σ) ?_ ?_ ?_ (fun _ _ h => h.elim)
  · repeat constructor
  · repeat constructor
  rintro _ _ ⟨rfl, hσ⟩
  have hσ2 := hσ.symm
  subst hσ2
  refine sl_as rfl rfl rfl ?_
  refine sl_nil ?_
  refine sw_ret ⟨rfl, _, _, res_one rfl rfl, ?_, ⟨rfl, rfl⟩⟩
  repeat constructor

end Go.Proofs.YtlolmemiedhhhaaDoor

/- Walks: printed by a program of this session out of its script PrF. -/
namespace Go.Proofs.YtlolmemiedhhhaaDoor
set_option linter.unusedVariables false
set_option linter.unusedSimpArgs false
set_option maxRecDepth 4000
set_option maxHeartbeats 4000000
open Go Go.RowKit SL


def exv : Ex := .node 1 0 [97] .nil .nil
def exw : Ex := .node 3 0 [] exv exv
def exe : Ex := .node 3 0 [] exv exw
theorem exe_text : (prE exe == [97, 32, 45, 32, 40, 97, 32, 45, 32, 97, 41]) = true := by decide
theorem exe_ok : ExOk exe := by simp [ExOk, exe, exw, exv, isI64]
theorem exe_short : shortE exe := by simp [shortE, exe, exw, exv]

/-- What is known of print. -/
theorem known8_ok (σ : List Chunk) : FSpec Tryd.prog 8 [] σ (fun d σ' => d = .val (.bool true) ∧ σ' = σ) := by
  refine spec_of_sw Tryd.func8 rfl ?_
  refine sw_seq ?_
  refine sl_region ?_
  refine sl_as rfl rfl rfl ?_
  refine sl_nil ?_
  refine sw_seq ?_
  refine sl_region ?_
  refine sl_bd rfl rfl (.cons rfl (.cons rfl .nil)) bi_53 zd_53 rfl ?_
  refine sl_bx_imm rfl rfl rfl rfl rfl ?_
  refine sl_wk 4 (.val (exV exv)) (Weak.rp_ref _) ?_
  refine sl_as rfl rfl rfl ?_
  refine sl_nil ?_
  refine sw_seq ?_
  refine sl_region ?_
  refine sl_mv rfl rfl rfl ?_
  refine sl_mv rfl rfl rfl ?_
  refine sl_mv rfl rfl rfl ?_
  refine sl_bd rfl rfl (.cons rfl (.cons rfl (.cons rfl .nil))) bi_53 zd_53 rfl ?_
  refine sl_bx_imm rfl rfl rfl rfl rfl ?_
  refine sl_wk 9 (.val (exV exw)) (Weak.rp_ref _) ?_
  refine sl_bd rfl rfl (.cons rfl (.cons rfl (.cons rfl .nil))) bi_53 zd_53 rfl ?_
  refine sl_bx_imm rfl rfl rfl rfl rfl ?_
  refine sl_wk 11 (.val (exV exe)) (Weak.rp_ref _) ?_
  refine sl_as rfl rfl rfl ?_
  refine sl_nil ?_
  refine sw_seq ?_
  refine sl_region ?_
  refine sl_mv rfl rfl rfl ?_
  refine sl_callf rfl rfl cal_11 (expr_ok exe exe_ok exe_short (by decide) σ) ?_ ?_ ?_ (fun _ _ h => h.elim)
  · repeat constructor
  · repeat constructor
  rintro _ _ ⟨rfl, hσ⟩
  have hσ2 := hσ.symm
  subst hσ2
  refine sl_str rfl rfl rfl rfl rfl ?_
  refine sl_set 14 (.val (.bool true)) (val_tt exe_text) ?_
  refine sl_mv rfl rfl rfl ?_
  refine sl_guard_y rfl rfl rfl (rfl) ?_
  refine sl_bd rfl rfl (.cons rfl (.cons rfl .nil)) bi_55 zd_55 rfl ?_
  refine sl_guard_y rfl rfl rfl (rfl) ?_
  refine sl_bx_imm rfl rfl rfl rfl rfl ?_
  refine sl_wk 17 (.val (.ref (.agg [.int .i64 9, .nil, .nil, .nil, .nil, .str [112]]))) (Weak.rp_ref _) ?_
  refine sl_guard_y rfl rfl rfl (rfl) ?_
  refine sl_callf rfl rfl cal_19 (cond_null_ok [112] σ (by decide)) ?_ ?_ ?_ (fun _ _ h => h.elim)
  · repeat constructor
  · repeat constructor
  rintro _ _ ⟨rfl, hσ⟩
  have hσ2 := hσ.symm
  subst hσ2
  refine sl_guard_y rfl rfl rfl (rfl) ?_
  refine sl_str rfl rfl rfl rfl rfl ?_
  refine sl_set 19 (.val (.bool true)) (val_tt (by decide)) ?_
  refine sl_pk_t rfl rfl rfl (rfl) rfl ?_
  refine sl_mv rfl rfl rfl ?_
  refine sl_guard_y rfl rfl rfl (rfl) ?_
  refine sl_bs1 rfl rfl (.cons rfl .nil) u_57 sz_9 zs_9 (by decide) rfl rfl rfl rfl ?_
  refine sl_guard_y rfl rfl rfl (rfl) ?_
  refine sl_bd rfl rfl (.cons rfl .nil) bi_60 zd_60 rfl ?_
  refine sl_guard_y rfl rfl rfl (rfl) ?_
  refine sl_callf rfl rfl cal_27 (globals_ok σ) ?_ ?_ ?_ (fun _ _ h => h.elim)
  · repeat constructor
  · repeat constructor
  rintro _ _ ⟨rfl, hσ⟩
  have hσ2 := hσ.symm
  subst hσ2
  refine sl_guard_y rfl rfl rfl (rfl) ?_
  refine sl_str rfl rfl rfl rfl rfl ?_
  refine sl_set 25 (.val (.bool true)) (val_tt (by decide)) ?_
  refine sl_pk_t rfl rfl rfl (rfl) rfl ?_
  refine sl_mv rfl rfl rfl ?_
  refine sl_guard_y rfl rfl rfl (rfl) ?_
  refine sl_bd rfl rfl (.cons rfl .nil) bi_32 zd_32 rfl ?_
  refine sl_guard_y rfl rfl rfl (rfl) ?_
  refine sl_callf rfl rfl cal_16 (func0_ok σ) ?_ ?_ ?_ (fun _ _ h => h.elim)
  · repeat constructor
  · repeat constructor
  rintro _ _ ⟨rfl, hσ⟩
  have hσ2 := hσ.symm
  subst hσ2
  refine sl_guard_y rfl rfl rfl (rfl) ?_
  refine sl_str rfl rfl rfl rfl rfl ?_
  refine sl_set 30 (.val (.bool true)) (val_tt (by decide)) ?_
  refine sl_pk_t rfl rfl rfl (rfl) rfl ?_
  refine sl_as rfl rfl rfl ?_
  refine sl_nil ?_
  refine sw_ret ⟨rfl, _, _, res_one rfl rfl, ?_, ⟨rfl, rfl⟩⟩
  repeat constructor

theorem rexpr_ok : ∀ (e : Ex), rightE e = true → ExOk e → shortE e → szE e ≤ 100 → ∀ σ, FSpec Tryd.prog 12 [.val (exV e)] σ (fun d σ' => d = .val (.str (prE e)) ∧ σ' = σ)
  | .nil, h, _, _, _, _ => by simp [rightE] at h
  | .node k n s a b, h, ⟨h1, h2, h3, h4⟩, ⟨s1, s2, s3⟩, hz, σ => by
    rw [szE] at hz
    have la := prE_len a h3 s2
    have lb := prE_len b h4 s3
    by_cases k0 : k = 0
    · subst k0
      rw [right0 rfl] at h
      simp only [Bool.and_eq_true] at h
      obtain ⟨_, ha, hb, hs⟩ := h
      obtain rfl := nil_of ha
      obtain rfl := nil_of hb
      obtain rfl : s = [] := by simpa using hs
      exact rexpr_num n h2 σ
    · by_cases k1 : k = 1
      · subst k1
        rw [right1 rfl] at h
        simp only [Bool.and_eq_true] at h
        obtain ⟨_, ha, hb, hn⟩ := h
        obtain rfl := nil_of ha
        obtain rfl := nil_of hb
        obtain rfl : n = 0 := by simpa using hn
        exact rexpr_var s σ
      · by_cases k7 : k = 7
        · subst k7
          rw [right7 rfl] at h
          simp only [Bool.and_eq_true] at h
          obtain ⟨ha, hb, hn, hs⟩ := h
          obtain rfl := nil_of hb
          obtain rfl : n = 0 := by simpa using hn
          obtain rfl : s = [] := by simpa using hs
          cases a with
          | nil => simp [rightE] at ha
          | node ka na sa a1 a2 => exact rexpr_neg ka na sa a1 a2 (by omega) (rexpr_ok _ ha h3 s2 (by omega)) σ
        · by_cases kb : k = 2 ∨ k = 3 ∨ k = 4 ∨ k = 5 ∨ k = 6
          · rw [rightB kb] at h
            simp only [Bool.and_eq_true] at h
            obtain ⟨ha, hb, hn, hs⟩ := h
            obtain rfl : n = 0 := by simpa using hn
            obtain rfl : s = [] := by simpa using hs
            have ia := rexpr_ok a ha h3 s2 (by omega)
            have ib := rexpr_ok b hb h4 s3 (by omega)
            cases a with
            | nil => simp [rightE] at ha
            | node ka na sa a1 a2 =>
              cases b with
              | nil => simp [rightE] at hb
              | node kb' nb sb b1 b2 =>
                rcases kb with rfl | rfl | rfl | rfl | rfl
                · exact rexpr_2 ka na kb' nb sa sb a1 a2 b1 b2 (by omega) (by omega) ia ib σ
                · exact rexpr_3 ka na kb' nb sa sb a1 a2 b1 b2 (by omega) (by omega) ia ib σ
                · exact rexpr_4 ka na kb' nb sa sb a1 a2 b1 b2 (by omega) (by omega) ia ib σ
                · exact rexpr_5 ka na kb' nb sa sb a1 a2 b1 b2 (by omega) (by omega) ia ib σ
                · exact rexpr_6 ka na kb' nb sa sb a1 a2 b1 b2 (by omega) (by omega) ia ib σ
          · rw [rightN (by omega)] at h; simp at h

/-- PrintExprs. -/
theorem printExprs_ok (e : Ex) (he : ExOk e) : FSpec Tryd.prog 3 [.val (exV e)] [] (fun d σ' => d = .val (.bool true) ∧ σ' = []) := by
  refine spec_of_sw Tryd.func3 rfl ?_
  refine sw_seq ?_
  refine sl_region ?_
  refine sl_as rfl rfl rfl ?_
  refine sl_nil ?_
  refine sw_seq ?_
  refine sw_seq ?_
  refine sl_region ?_
  refine sl_callf rfl rfl cal_8 (known8_ok []) ?_ ?_ ?_ (fun _ _ h => h.elim)
  · repeat constructor
  · repeat constructor
  rintro _ _ ⟨rfl, rfl⟩
  refine sl_not rfl rfl rfl ?_
  refine sl_nil ?_
  refine sw_false rfl (rfl) ?_
  refine sw_skip ?_
  refine sw_seq ?_
  refine sl_region ?_
  refine sl_alloc rfl rfl zd_3 (fun b3 => ?_)
  refine sl_stp rfl rfl rfl rfl sz_3 rfl rfl rfl (by repeat constructor) (Nat.le_of_ble_eq_true rfl) ?_
  refine sl_nil ?_
  refine sw_seq ?_
  refine sw_seq ?_
  refine sl_region ?_
  refine sl_mv rfl rfl rfl ?_
  refine sl_callf rfl rfl cal_9 (light_ok e b3 60 20 [] (by decide) (by decide) (by decide) (by decide)) ?_ ?_ ?_ (fun _ _ h => h.elim)
  · repeat constructor
  · repeat constructor
  rintro _ _ ⟨rfl, rfl⟩
  refine sl_not rfl rfl rfl ?_
  refine sl_mv rfl rfl rfl ?_
  refine sl_case_at 9 rfl (fun g1 => ?_) (fun g1 => ?_)
  · refine sl_guard_n rfl rfl rfl g1 ?_
    refine sl_guard_n rfl rfl rfl g1 ?_
    refine sl_guard_n rfl rfl rfl g1 ?_
    refine sl_pk_t rfl rfl rfl g1 rfl ?_
    refine sl_nil ?_
    refine sw_true rfl (rfl) ?_
    refine sw_seq ?_
    refine sl_region ?_
    refine sl_as rfl rfl rfl ?_
    refine sl_nil ?_
    refine sw_ret ⟨rfl, _, _, res_one rfl rfl, ?_, ⟨rfl, rfl⟩⟩
    repeat constructor
  have k1 : (lightE e 60 20).1 = true := by simpa using g1
  obtain ⟨hsh, hsz⟩ := light_fits e 60 20 (by decide) k1
  obtain ⟨_, _, hpos⟩ := light_low e 60 20 (by decide)
  have hpos := hpos k1
  refine sl_guard_y rfl rfl rfl g1 ?_
  refine sl_mv rfl rfl rfl ?_
  refine sl_guard_y rfl rfl rfl g1 ?_
  refine sl_callf rfl rfl cal_10 (right_ok e (.blk b3 [.val (.int .i64 (lightE e 60 20).2)] :: [])) ?_ ?_ ?_ (fun _ _ h => h.elim)
  · repeat constructor
  · repeat constructor
  rintro _ _ ⟨rfl, rfl⟩
  refine sl_guard_y rfl rfl rfl g1 ?_
  refine sl_not rfl rfl rfl ?_
  refine sl_pk_f rfl rfl rfl g1 rfl ?_
  refine sl_nil ?_
  refine sw_cond rfl (fun g2 => ?_) (fun g2 => ?_)
  · refine sw_seq ?_
    refine sl_region ?_
    refine sl_as rfl rfl rfl ?_
    refine sl_nil ?_
    refine sw_ret ⟨rfl, _, _, res_one rfl rfl, ?_, ⟨rfl, rfl⟩⟩
    repeat constructor
  have k2 : rightE e = true := by simpa using g2
  refine sw_skip ?_
  refine sw_seq ?_
  refine sl_region ?_
  refine sl_mv rfl rfl rfl ?_
  refine sl_callf rfl rfl cal_11 (expr_ok e he hsh (by omega) (.blk b3 [.val (.int .i64 (lightE e 60 20).2)] :: [])) ?_ ?_ ?_ (fun _ _ h => h.elim)
  · repeat constructor
  · repeat constructor
  rintro _ _ ⟨rfl, rfl⟩
  refine sl_mv rfl rfl rfl ?_
  refine sl_callf rfl rfl cal_12 (rexpr_ok e k2 he hsh (by omega) (.blk b3 [.val (.int .i64 (lightE e 60 20).2)] :: [])) ?_ ?_ ?_ (fun _ _ h => h.elim)
  · repeat constructor
  · repeat constructor
  rintro _ _ ⟨rfl, rfl⟩
  refine sl_str rfl rfl rfl rfl rfl ?_
  refine sl_set 18 (.val (.bool true)) (val_tt (beq_self_eq_true _)) ?_
  refine sl_as rfl rfl rfl ?_
  refine sl_nil ?_
  refine sw_ret ⟨rfl, _, _, res_one rfl rfl, ?_, ⟨rfl, rfl⟩⟩
  repeat constructor

end Go.Proofs.YtlolmemiedhhhaaDoor
