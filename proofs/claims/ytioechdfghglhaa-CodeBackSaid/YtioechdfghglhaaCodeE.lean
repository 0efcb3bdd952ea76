/- Walks: printed by a program of this session out of its script CodeE. -/
import Derived.Test.YtioechdfghglhaaSlT
import Derived.Test.YtioechdfghglhaaP4
import Derived.Test.YtioechdfghglhaaCodeD
namespace Go.Proofs.Ytioechdfghglhaa
set_option linter.unusedVariables false
set_option linter.unusedSimpArgs false
set_option maxRecDepth 4000
set_option maxHeartbeats 4000000
open Go Go.RowKit SL


theorem ints_known : ([] : List UInt8) ++ [(-1 : Int), 1].flatMap encInt = [1, 2] := by
  simp [encInt, zig, encNum_lt]

/-- What is known of the code. -/
theorem known2_ok (σ : List Chunk) : FSpec Try.prog 15 [] σ (fun d σ' => d = .val (.bool true) ∧ σ' = σ) := by
  refine spec_of_sw Try.func15 rfl ?_
  refine sw_seq ?_
  refine sl_region ?_
  refine sl_as rfl rfl rfl ?_
  refine sl_nil ?_
  refine sw_seq ?_
  refine sl_region ?_
  refine sl_callf rfl rfl cal_16 (newWriter_ok σ) ?_ ?_ ?_ (fun _ _ h => h.elim)
  · repeat (first | exact Weaks.nil | refine Weaks.cons (Weak.junk _) ?_ | refine Weaks.cons (Weak.refl _) ?_ | refine Weaks.cons (Weak.toV rfl) ?_ | refine Weaks.cons (Weak.ref _) ?_ | refine Weaks.cons (Weak.rp_agg _) ?_)
  · repeat (first | exact Sub.refl _ | exact Sub.none _ | refine Sub.p0 ?_ | refine Sub.p1 ?_ | refine Sub.p2 ?_ | refine Sub.p3 ?_ | refine Sub.p4 ?_ | refine Sub.p5 ?_ | refine Sub.p6 ?_ | refine Sub.drop ?_)
  rintro _ _ ⟨p, v, rfl, rfl⟩
  refine sl_as rfl rfl rfl ?_
  refine sl_nil ?_
  refine sw_seq ?_
  refine sw_seq ?_
  refine sl_region ?_
  refine sl_mv rfl rfl rfl ?_
  refine sl_eq_nil rfl rfl rfl u_23 ?_
  refine sl_nil ?_
  refine sw_false rfl (rfl) ?_
  refine sw_skip ?_
  refine sw_seq ?_
  refine sl_region ?_
  refine sl_mv rfl rfl rfl ?_
  refine sl_nc rfl rfl rfl rfl ?_
  first
    | refine sl_fieldAddr_ptr rfl rfl rfl fo_30_0 ?_
    | refine sl_fieldAddr_rp rfl rfl rfl fo_30_0 ?_
    | refine sl_fieldAddr_ref rfl rfl rfl fo_30_0 ?_
  refine sl_bs1 rfl rfl (.cons rfl (.cons rfl .nil)) u_52 sz_2 zs_2 (by decide) rfl rfl rfl rfl ?_
  refine sl_callf rfl rfl cal_17 (int_ok p v [] [-1, 1] σ (by intro n hn; simp at hn; unfold isI64; omega) (by decide)) ?_ ?_ ?_ (fun _ _ h => h.elim)
  · repeat (first | exact Weaks.nil | refine Weaks.cons (Weak.junk _) ?_ | refine Weaks.cons (Weak.refl _) ?_ | refine Weaks.cons (Weak.toV rfl) ?_ | refine Weaks.cons (Weak.ref _) ?_ | refine Weaks.cons (Weak.rp_agg _) ?_)
  · repeat (first | exact Sub.refl _ | exact Sub.none _ | refine Sub.p0 ?_ | refine Sub.p1 ?_ | refine Sub.p2 ?_ | refine Sub.p3 ?_ | refine Sub.p4 ?_ | refine Sub.p5 ?_ | refine Sub.p6 ?_ | refine Sub.drop ?_)
  rintro _ _ ⟨rfl, v2, rfl⟩
  rw [ints_known]
  refine sl_nil ?_
  refine sw_seq ?_
  refine sl_region ?_
  refine sl_mv rfl rfl rfl ?_
  refine sl_nc rfl rfl rfl rfl ?_
  first
    | refine sl_fieldAddr_ptr rfl rfl rfl fo_30_0 ?_
    | refine sl_fieldAddr_rp rfl rfl rfl fo_30_0 ?_
    | refine sl_fieldAddr_ref rfl rfl rfl fo_30_0 ?_
  refine sl_callf rfl rfl cal_19 (bytes_ok p v2 [1, 2] (.spare v2 1 :: σ) (by decide)) ?_ ?_ ?_ (fun _ _ h => h.elim)
  · repeat (first | exact Weaks.nil | refine Weaks.cons (Weak.junk _) ?_ | refine Weaks.cons (Weak.refl _) ?_ | refine Weaks.cons (Weak.toV rfl) ?_ | refine Weaks.cons (Weak.ref _) ?_ | refine Weaks.cons (Weak.rp_agg _) ?_)
  · repeat (first | exact Sub.refl _ | exact Sub.none _ | refine Sub.p0 ?_ | refine Sub.p1 ?_ | refine Sub.p2 ?_ | refine Sub.p3 ?_ | refine Sub.p4 ?_ | refine Sub.p5 ?_ | refine Sub.p6 ?_ | refine Sub.drop ?_)
  rintro _ _ ⟨rfl, rfl⟩
  refine sl_callf rfl rfl cal_18 (newReader_ok [1, 2] (.blk p [.own v2 (([1, 2] : List UInt8).map byteV)] :: .spare v2 1 :: σ) (by decide)) ?_ ?_ ?_ (fun _ _ h => h.elim)
  · repeat (first | exact Weaks.nil | refine Weaks.cons (Weak.junk _) ?_ | refine Weaks.cons (Weak.refl _) ?_ | refine Weaks.cons (Weak.toV rfl) ?_ | refine Weaks.cons (Weak.ref _) ?_ | refine Weaks.cons (Weak.rp_agg _) ?_)
  · repeat (first | exact Sub.refl _ | exact Sub.none _ | refine Sub.p0 ?_ | refine Sub.p1 ?_ | refine Sub.p2 ?_ | refine Sub.p3 ?_ | refine Sub.p4 ?_ | refine Sub.p5 ?_ | refine Sub.p6 ?_ | refine Sub.drop ?_)
  rintro _ _ ⟨q, rfl, rfl⟩
  refine sl_as rfl rfl rfl ?_
  refine sl_nil ?_
  refine sw_seq ?_
  refine sl_region ?_
  refine sl_mv rfl rfl rfl ?_
  refine sl_nc rfl rfl rfl rfl ?_
  first
    | refine sl_fieldAddr_ptr rfl rfl rfl fo_30_0 ?_
    | refine sl_fieldAddr_rp rfl rfl rfl fo_30_0 ?_
    | refine sl_fieldAddr_ref rfl rfl rfl fo_30_0 ?_
  refine sl_callf rfl rfl cal_19 (bytes_ok p v2 [1, 2] (rd q [1, 2] false :: .spare v2 1 :: σ) (by decide)) ?_ ?_ ?_ (fun _ _ h => h.elim)
  · repeat (first | exact Weaks.nil | refine Weaks.cons (Weak.junk _) ?_ | refine Weaks.cons (Weak.refl _) ?_ | refine Weaks.cons (Weak.toV rfl) ?_ | refine Weaks.cons (Weak.ref _) ?_ | refine Weaks.cons (Weak.rp_agg _) ?_)
  · repeat (first | exact Sub.refl _ | exact Sub.none _ | refine Sub.p0 ?_ | refine Sub.p1 ?_ | refine Sub.p2 ?_ | refine Sub.p3 ?_ | refine Sub.p4 ?_ | refine Sub.p5 ?_ | refine Sub.p6 ?_ | refine Sub.drop ?_)
  rintro _ _ ⟨rfl, rfl⟩
  refine sl_bytes_str rfl rfl rfl u_26 u_5 u_9 ?_
  refine sl_str rfl rfl rfl rfl rfl ?_
  refine sl_mv rfl rfl rfl ?_
  refine sl_guard_y rfl rfl rfl (rfl) ?_
  refine sl_mv rfl rfl rfl ?_
  refine sl_guard_y rfl rfl rfl (rfl) ?_
  refine sl_ne_nil rfl rfl rfl u_31 ?_
  refine sl_pk_t rfl rfl rfl (rfl) rfl ?_
  refine sl_mv rfl rfl rfl ?_
  refine sl_guard_y rfl rfl rfl (rfl) ?_
  refine sl_mv rfl rfl rfl ?_
  refine sl_guard_y rfl rfl rfl (rfl) ?_
  refine sl_callf rfl rfl cal_20 (pInt_ok q (some [1, 2]) _ σ ⟨rfl, by decide⟩) ?_ ?_ ?_ (fun _ _ h => h.elim)
  · repeat (first | exact Weaks.nil | refine Weaks.cons (Weak.junk _) ?_ | refine Weaks.cons (Weak.refl _) ?_ | refine Weaks.cons (Weak.toV rfl) ?_ | refine Weaks.cons (Weak.ref _) ?_ | refine Weaks.cons (Weak.rp_agg _) ?_)
  · repeat (first | exact Sub.refl _ | exact Sub.none _ | refine Sub.p0 ?_ | refine Sub.p1 ?_ | refine Sub.p2 ?_ | refine Sub.p3 ?_ | refine Sub.p4 ?_ | refine Sub.p5 ?_ | refine Sub.p6 ?_ | refine Sub.drop ?_)
  rintro _ _ ⟨rfl, c2, h2, rfl⟩
  refine sl_guard_y rfl rfl rfl (rfl) ?_
  refine sl_bin rfl rfl rfl rfl rfl ?_
  refine sl_pk_t rfl rfl rfl (rfl) rfl ?_
  refine sl_mv rfl rfl rfl ?_
  refine sl_guard_y rfl rfl rfl (rfl) ?_
  refine sl_mv rfl rfl rfl ?_
  refine sl_guard_y rfl rfl rfl (rfl) ?_
  refine sl_callf rfl rfl cal_20 (pInt_ok q (some [2]) c2 σ h2) ?_ ?_ ?_ (fun _ _ h => h.elim)
  · repeat (first | exact Weaks.nil | refine Weaks.cons (Weak.junk _) ?_ | refine Weaks.cons (Weak.refl _) ?_ | refine Weaks.cons (Weak.toV rfl) ?_ | refine Weaks.cons (Weak.ref _) ?_ | refine Weaks.cons (Weak.rp_agg _) ?_)
  · repeat (first | exact Sub.refl _ | exact Sub.none _ | refine Sub.p0 ?_ | refine Sub.p1 ?_ | refine Sub.p2 ?_ | refine Sub.p3 ?_ | refine Sub.p4 ?_ | refine Sub.p5 ?_ | refine Sub.p6 ?_ | refine Sub.drop ?_)
  rintro _ _ ⟨rfl, c3, h3, rfl⟩
  refine sl_guard_y rfl rfl rfl (rfl) ?_
  refine sl_bin rfl rfl rfl rfl rfl ?_
  refine sl_pk_t rfl rfl rfl (rfl) rfl ?_
  refine sl_mv rfl rfl rfl ?_
  refine sl_guard_y rfl rfl rfl (rfl) ?_
  refine sl_mv rfl rfl rfl ?_
  refine sl_guard_y rfl rfl rfl (rfl) ?_
  refine sl_callf rfl rfl cal_21 (done_ok q (some []) c3 σ h3) ?_ ?_ ?_ (fun _ _ h => h.elim)
  · repeat (first | exact Weaks.nil | refine Weaks.cons (Weak.junk _) ?_ | refine Weaks.cons (Weak.refl _) ?_ | refine Weaks.cons (Weak.toV rfl) ?_ | refine Weaks.cons (Weak.ref _) ?_ | refine Weaks.cons (Weak.rp_agg _) ?_)
  · repeat (first | exact Sub.refl _ | exact Sub.none _ | refine Sub.p0 ?_ | refine Sub.p1 ?_ | refine Sub.p2 ?_ | refine Sub.p3 ?_ | refine Sub.p4 ?_ | refine Sub.p5 ?_ | refine Sub.p6 ?_ | refine Sub.drop ?_)
  rintro _ _ ⟨rfl, rfl⟩
  refine sl_guard_y rfl rfl rfl (rfl) ?_
  refine sl_bin rfl rfl rfl rfl rfl ?_
  refine sl_pk_t rfl rfl rfl (rfl) rfl ?_
  refine sl_mv rfl rfl rfl ?_
  refine sl_guard_y rfl rfl rfl (rfl) ?_
  refine sl_mv rfl rfl rfl ?_
  refine sl_guard_y rfl rfl rfl (rfl) ?_
  refine sl_callf rfl rfl cal_32 (pText_ok q (some []) c3 σ h3) ?_ ?_ ?_ (fun _ _ h => h.elim)
  · repeat (first | exact Weaks.nil | refine Weaks.cons (Weak.junk _) ?_ | refine Weaks.cons (Weak.refl _) ?_ | refine Weaks.cons (Weak.toV rfl) ?_ | refine Weaks.cons (Weak.ref _) ?_ | refine Weaks.cons (Weak.rp_agg _) ?_)
  · repeat (first | exact Sub.refl _ | exact Sub.none _ | refine Sub.p0 ?_ | refine Sub.p1 ?_ | refine Sub.p2 ?_ | refine Sub.p3 ?_ | refine Sub.p4 ?_ | refine Sub.p5 ?_ | refine Sub.p6 ?_ | refine Sub.drop ?_)
  rintro _ _ ⟨rfl, c4, h4, rfl⟩
  refine sl_guard_y rfl rfl rfl (rfl) ?_
  refine sl_str rfl rfl rfl rfl rfl ?_
  refine sl_pk_t rfl rfl rfl (rfl) rfl ?_
  refine sl_mv rfl rfl rfl ?_
  refine sl_guard_y rfl rfl rfl (rfl) ?_
  refine sl_mv rfl rfl rfl ?_
  refine sl_guard_y rfl rfl rfl (rfl) ?_
  refine sl_callf rfl rfl cal_21 (done_ok q none c4 σ h4) ?_ ?_ ?_ (fun _ _ h => h.elim)
  · repeat (first | exact Weaks.nil | refine Weaks.cons (Weak.junk _) ?_ | refine Weaks.cons (Weak.refl _) ?_ | refine Weaks.cons (Weak.toV rfl) ?_ | refine Weaks.cons (Weak.ref _) ?_ | refine Weaks.cons (Weak.rp_agg _) ?_)
  · repeat (first | exact Sub.refl _ | exact Sub.none _ | refine Sub.p0 ?_ | refine Sub.p1 ?_ | refine Sub.p2 ?_ | refine Sub.p3 ?_ | refine Sub.p4 ?_ | refine Sub.p5 ?_ | refine Sub.p6 ?_ | refine Sub.drop ?_)
  rintro _ _ ⟨rfl, rfl⟩
  refine sl_guard_y rfl rfl rfl (rfl) ?_
  refine sl_bin rfl rfl rfl rfl rfl ?_
  refine sl_pk_t rfl rfl rfl (rfl) rfl ?_
  refine sl_as rfl rfl rfl ?_
  refine sl_nil ?_
  refine sw_ret ⟨rfl, _, _, res_one rfl rfl, ?_, ⟨rfl, rfl⟩⟩
  repeat (first | exact Sub.refl _ | exact Sub.none _ | refine Sub.p0 ?_ | refine Sub.p1 ?_ | refine Sub.p2 ?_ | refine Sub.p3 ?_ | refine Sub.p4 ?_ | refine Sub.p5 ?_ | refine Sub.p6 ?_ | refine Sub.drop ?_)

theorem zig_neg {n : Int} (h : isI64 n) (hn : n < 0) : D.val (.int .u64 (IntKind.u64.wrap (IntKind.u64.wrap (IntKind.u64.wrap (IntKind.i64.wrap (0 - (n + 1))) * 2) + 1))) = .val (u64V (zig n)) := by
  unfold isI64 at h
  rw [wrap_i64 (n := 0 - (n + 1)) (by omega) (by omega), wrap_u64 (n := 0 - (n + 1)) (by omega) (by omega), wrap_u64 (n := (0 - (n + 1)) * 2) (by omega) (by omega), wrap_u64 (by omega) (by omega)]
  unfold u64V zig
  rw [if_pos hn]
  congr 2; omega

theorem zig_pos {n : Int} (h : isI64 n) (hn : ¬ n < 0) : D.val (.int .u64 (IntKind.u64.wrap (IntKind.u64.wrap n * 2))) = .val (u64V (zig n)) := by
  unfold isI64 at h
  rw [wrap_u64 (n := n) (by omega) (by omega), wrap_u64 (by omega) (by omega)]
  unfold u64V zig
  rw [if_neg hn]
  congr 2; omega

theorem zig_ok (n : Int) (σ : List Chunk) (h : isI64 n) : FSpec Try.prog 22 [.val (i64V n)] σ (fun d σ' => d = .val (u64V (zig n)) ∧ σ' = σ) := by
  unfold isI64 at h
  refine spec_of_sw Try.func22 rfl ?_
  refine sw_seq ?_
  refine sl_region ?_
  refine sl_as rfl rfl rfl ?_
  refine sl_nil ?_
  refine sw_seq ?_
  refine sw_seq ?_
  refine sl_region ?_
  refine sl_mv rfl rfl rfl ?_
  refine sl_bin rfl rfl rfl rfl rfl ?_
  refine sl_nil ?_
  refine sw_cond rfl (fun hn => ?_) (fun hn => ?_)
  · have hn : n < 0 := of_decide_eq_true hn
    refine sw_seq ?_
    refine sl_region ?_
    refine sl_mv rfl rfl rfl ?_
    first
      | refine sl_inc rfl rfl rfl rfl (by omega) ?_
      | refine sl_add rfl rfl rfl rfl (by constructor <;> omega) ?_
      | refine sl_bin rfl rfl rfl rfl rfl ?_
    refine sl_neg rfl rfl rfl ?_
    refine sl_conv_int rfl rfl rfl is_2 u_37 ?_
    refine sl_bin rfl rfl rfl rfl rfl ?_
    refine sl_bin rfl rfl rfl rfl rfl ?_
    refine sl_set 10 (.val (u64V (zig n))) (zig_neg h hn) ?_
    refine sl_as rfl rfl rfl ?_
    refine sl_nil ?_
    refine sw_ret ⟨rfl, _, _, res_one rfl rfl, ?_, ⟨rfl, rfl⟩⟩
    repeat (first | exact Sub.refl _ | exact Sub.none _ | refine Sub.p0 ?_ | refine Sub.p1 ?_ | refine Sub.p2 ?_ | refine Sub.p3 ?_ | refine Sub.p4 ?_ | refine Sub.p5 ?_ | refine Sub.p6 ?_ | refine Sub.drop ?_)
  · have hn : ¬ n < 0 := of_decide_eq_false hn
    refine sw_skip ?_
    refine sw_seq ?_
    refine sl_region ?_
    refine sl_mv rfl rfl rfl ?_
    refine sl_conv_int rfl rfl rfl is_2 u_37 ?_
    refine sl_bin rfl rfl rfl rfl rfl ?_
    refine sl_set 13 (.val (u64V (zig n))) (zig_pos h hn) ?_
    refine sl_as rfl rfl rfl ?_
    refine sl_nil ?_
    refine sw_ret ⟨rfl, _, _, res_one rfl rfl, ?_, ⟨rfl, rfl⟩⟩
    repeat (first | exact Sub.refl _ | exact Sub.none _ | refine Sub.p0 ?_ | refine Sub.p1 ?_ | refine Sub.p2 ?_ | refine Sub.p3 ?_ | refine Sub.p4 ?_ | refine Sub.p5 ?_ | refine Sub.p6 ?_ | refine Sub.drop ?_)

theorem encNum_inj {a b : Nat} (ha : a < 18446744073709551616) (hb : b < 18446744073709551616) (h : encNum a = encNum b) : a = b := by
  have h1 := decN_enc ha []
  have h2 := decN_enc hb []
  rw [h, h2] at h1
  simpa using h1.symm

theorem encInt_inj {a b : Int} (ha : isI64 a) (hb : isI64 b) (h : encInt a = encInt b) : a = b := zig_inj (encNum_inj (zig_lt ha) (zig_lt hb) h)

theorem encNum_mono : ∀ (a b : Nat), a ≤ b → (encNum a).length ≤ (encNum b).length := by
  intro a
  induction a using Nat.strongRecOn with
  | _ a ih =>
    intro b hab
    by_cases ha : a < 128
    · rw [encNum_lt ha]; exact encNum_pos b
    · rw [encNum_ge (by omega), encNum_ge (n := b) (by omega)]
      have := ih (a / 128) (by omega) (b / 128) (by omega)
      simp only [List.length_cons]; omega

theorem ints_same {a b : Int} (ha : isI64 a) (hb : isI64 b) : (([] ++ [a].flatMap encInt == [] ++ [b].flatMap encInt) == (a == b)) = true := by
  have : [a].flatMap encInt = encInt a := by simp
  have h2 : [b].flatMap encInt = encInt b := by simp
  rw [this, h2, List.nil_append, List.nil_append]
  by_cases h : a = b
  · subst h; simp
  · have : ¬ encInt a = encInt b := fun e => h (encInt_inj ha hb e)
    rw [beq_eq_false_iff_ne.mpr this, beq_eq_false_iff_ne.mpr h]; rfl

theorem codeInts_1 {a b : Int} (ha : isI64 a) (hb : isI64 b) : ((encInt a == encInt b) == (a == b)) = true := by
  have := ints_same ha hb
  simpa using this

theorem dec_int {a : Int} (h : isI64 a) : rdOf decI (0 : Int) (some (encInt a)) = (a, some []) := by
  have := decI_enc h []
  rw [List.append_nil] at this
  exact rdOf_good this

theorem one_int (a : Int) : ([] : List UInt8) ++ [a].flatMap encInt = encInt a := by simp

theorem ints_short {a b : Int} (h : decide ((zig a : Int) > (zig b : Int)) = false) : decide ((((encInt a).map byteV).length : Int) ≤ (((encInt b).map byteV).length : Int)) = true := by
  have h := of_decide_eq_false h
  refine decide_eq_true ?_
  have := encNum_mono (zig a) (zig b) (by omega)
  simp only [List.length_map, encInt]; omega

/-- CodeInts. -/
theorem codeInts_ok (a b : Int) (ha : isI64 a) (hb : isI64 b) : FSpec Try.prog 3 [.val (i64V a), .val (i64V b)] [] (fun d σ' => d = .val (.bool true) ∧ σ' = []) := by
  have hla : (encInt a).length ≤ 10 := encNum_len (zig_lt ha)
  have hlb : (encInt b).length ≤ 10 := encNum_len (zig_lt hb)
  refine spec_of_sw Try.func3 rfl ?_
  refine sw_seq ?_
  refine sl_region ?_
  refine sl_as rfl rfl rfl ?_
  refine sl_nil ?_
  refine sw_seq ?_
  refine sw_seq ?_
  refine sl_region ?_
  refine sl_callf rfl rfl cal_15 (known2_ok []) ?_ ?_ ?_ (fun _ _ h => h.elim)
  · repeat (first | exact Weaks.nil | refine Weaks.cons (Weak.junk _) ?_ | refine Weaks.cons (Weak.refl _) ?_ | refine Weaks.cons (Weak.toV rfl) ?_ | refine Weaks.cons (Weak.ref _) ?_ | refine Weaks.cons (Weak.rp_agg _) ?_)
  · repeat (first | exact Sub.refl _ | exact Sub.none _ | refine Sub.p0 ?_ | refine Sub.p1 ?_ | refine Sub.p2 ?_ | refine Sub.p3 ?_ | refine Sub.p4 ?_ | refine Sub.p5 ?_ | refine Sub.p6 ?_ | refine Sub.drop ?_)
  rintro _ _ ⟨rfl, rfl⟩
  refine sl_not rfl rfl rfl ?_
  refine sl_nil ?_
  refine sw_false rfl (rfl) ?_
  refine sw_skip ?_
  refine sw_seq ?_
  refine sl_region ?_
  refine sl_callf rfl rfl cal_16 (newWriter_ok []) ?_ ?_ ?_ (fun _ _ h => h.elim)
  · repeat (first | exact Weaks.nil | refine Weaks.cons (Weak.junk _) ?_ | refine Weaks.cons (Weak.refl _) ?_ | refine Weaks.cons (Weak.toV rfl) ?_ | refine Weaks.cons (Weak.ref _) ?_ | refine Weaks.cons (Weak.rp_agg _) ?_)
  · repeat (first | exact Sub.refl _ | exact Sub.none _ | refine Sub.p0 ?_ | refine Sub.p1 ?_ | refine Sub.p2 ?_ | refine Sub.p3 ?_ | refine Sub.p4 ?_ | refine Sub.p5 ?_ | refine Sub.p6 ?_ | refine Sub.drop ?_)
  rintro _ _ ⟨p1, v1, rfl, rfl⟩
  refine sl_callf rfl rfl cal_16 (newWriter_ok (.blk p1 [.own v1 (([] : List UInt8).map byteV)] :: .spare v1 1 :: [])) ?_ ?_ ?_ (fun _ _ h => h.elim)
  · repeat (first | exact Weaks.nil | refine Weaks.cons (Weak.junk _) ?_ | refine Weaks.cons (Weak.refl _) ?_ | refine Weaks.cons (Weak.toV rfl) ?_ | refine Weaks.cons (Weak.ref _) ?_ | refine Weaks.cons (Weak.rp_agg _) ?_)
  · repeat (first | exact Sub.refl _ | exact Sub.none _ | refine Sub.p0 ?_ | refine Sub.p1 ?_ | refine Sub.p2 ?_ | refine Sub.p3 ?_ | refine Sub.p4 ?_ | refine Sub.p5 ?_ | refine Sub.p6 ?_ | refine Sub.drop ?_)
  rintro _ _ ⟨p2, v2, rfl, rfl⟩
  refine sl_as rfl rfl rfl ?_
  refine sl_as rfl rfl rfl ?_
  refine sl_nil ?_
  refine sw_seq ?_
  refine sl_region ?_
  refine sl_mv rfl rfl rfl ?_
  refine sl_nc rfl rfl rfl rfl ?_
  first
    | refine sl_fieldAddr_ptr rfl rfl rfl fo_30_0 ?_
    | refine sl_fieldAddr_rp rfl rfl rfl fo_30_0 ?_
    | refine sl_fieldAddr_ref rfl rfl rfl fo_30_0 ?_
  refine sl_mv rfl rfl rfl ?_
  refine sl_bs1 rfl rfl (.cons rfl .nil) u_52 sz_2 zs_2 (by decide) rfl rfl rfl rfl ?_
  refine sl_callf rfl rfl cal_17 (int_ok p1 v1 [] [a] (.blk p2 [.own v2 (([] : List UInt8).map byteV)] :: .spare v2 1 :: []) (by intro n hn; simp at hn; subst hn; exact ha) (by simp)) ?_ ?_ ?_ (fun _ _ h => h.elim)
  · repeat (first | exact Weaks.nil | refine Weaks.cons (Weak.junk _) ?_ | refine Weaks.cons (Weak.refl _) ?_ | refine Weaks.cons (Weak.toV rfl) ?_ | refine Weaks.cons (Weak.ref _) ?_ | refine Weaks.cons (Weak.rp_agg _) ?_)
  · repeat (first | exact Sub.refl _ | exact Sub.none _ | refine Sub.p0 ?_ | refine Sub.p1 ?_ | refine Sub.p2 ?_ | refine Sub.p3 ?_ | refine Sub.p4 ?_ | refine Sub.p5 ?_ | refine Sub.p6 ?_ | refine Sub.drop ?_)
  rintro _ _ ⟨rfl, v3, rfl⟩
  rw [one_int]
  refine sl_nil ?_
  refine sw_seq ?_
  refine sl_region ?_
  refine sl_mv rfl rfl rfl ?_
  refine sl_nc rfl rfl rfl rfl ?_
  first
    | refine sl_fieldAddr_ptr rfl rfl rfl fo_30_0 ?_
    | refine sl_fieldAddr_rp rfl rfl rfl fo_30_0 ?_
    | refine sl_fieldAddr_ref rfl rfl rfl fo_30_0 ?_
  refine sl_mv rfl rfl rfl ?_
  refine sl_bs1 rfl rfl (.cons rfl .nil) u_52 sz_2 zs_2 (by decide) rfl rfl rfl rfl ?_
  refine sl_callf rfl rfl cal_17 (int_ok p2 v2 [] [b] (.blk p1 [.own v3 ((encInt a).map byteV)] :: .spare v3 1 :: []) (by intro n hn; simp at hn; subst hn; exact hb) (by simp)) ?_ ?_ ?_ (fun _ _ h => h.elim)
  · repeat (first | exact Weaks.nil | refine Weaks.cons (Weak.junk _) ?_ | refine Weaks.cons (Weak.refl _) ?_ | refine Weaks.cons (Weak.toV rfl) ?_ | refine Weaks.cons (Weak.ref _) ?_ | refine Weaks.cons (Weak.rp_agg _) ?_)
  · repeat (first | exact Sub.refl _ | exact Sub.none _ | refine Sub.p0 ?_ | refine Sub.p1 ?_ | refine Sub.p2 ?_ | refine Sub.p3 ?_ | refine Sub.p4 ?_ | refine Sub.p5 ?_ | refine Sub.p6 ?_ | refine Sub.drop ?_)
  rintro _ _ ⟨rfl, v4, rfl⟩
  rw [one_int]
  refine sl_nil ?_
  refine sw_seq ?_
  refine sl_region ?_
  refine sl_mv rfl rfl rfl ?_
  refine sl_nc rfl rfl rfl rfl ?_
  first
    | refine sl_fieldAddr_ptr rfl rfl rfl fo_30_0 ?_
    | refine sl_fieldAddr_rp rfl rfl rfl fo_30_0 ?_
    | refine sl_fieldAddr_ref rfl rfl rfl fo_30_0 ?_
  refine sl_callf rfl rfl cal_19 (bytes_ok p1 v3 (encInt a) (.spare v3 1 :: .blk p2 [.own v4 ((encInt b).map byteV)] :: .spare v4 1 :: []) (by omega)) ?_ ?_ ?_ (fun _ _ h => h.elim)
  · repeat (first | exact Weaks.nil | refine Weaks.cons (Weak.junk _) ?_ | refine Weaks.cons (Weak.refl _) ?_ | refine Weaks.cons (Weak.toV rfl) ?_ | refine Weaks.cons (Weak.ref _) ?_ | refine Weaks.cons (Weak.rp_agg _) ?_)
  · repeat (first | exact Sub.refl _ | exact Sub.none _ | refine Sub.p0 ?_ | refine Sub.p1 ?_ | refine Sub.p2 ?_ | refine Sub.p3 ?_ | refine Sub.p4 ?_ | refine Sub.p5 ?_ | refine Sub.p6 ?_ | refine Sub.drop ?_)
  rintro _ _ ⟨rfl, rfl⟩
  refine sl_callf rfl rfl cal_18 (newReader_ok (encInt a) (.blk p1 [.own v3 ((encInt a).map byteV)] :: .spare v3 1 :: .blk p2 [.own v4 ((encInt b).map byteV)] :: .spare v4 1 :: []) (by omega)) ?_ ?_ ?_ (fun _ _ h => h.elim)
  · repeat (first | exact Weaks.nil | refine Weaks.cons (Weak.junk _) ?_ | refine Weaks.cons (Weak.refl _) ?_ | refine Weaks.cons (Weak.toV rfl) ?_ | refine Weaks.cons (Weak.ref _) ?_ | refine Weaks.cons (Weak.rp_agg _) ?_)
  · repeat (first | exact Sub.refl _ | exact Sub.none _ | refine Sub.p0 ?_ | refine Sub.p1 ?_ | refine Sub.p2 ?_ | refine Sub.p3 ?_ | refine Sub.p4 ?_ | refine Sub.p5 ?_ | refine Sub.p6 ?_ | refine Sub.drop ?_)
  rintro _ _ ⟨q, rfl, rfl⟩
  refine sl_as rfl rfl rfl ?_
  refine sl_nil ?_
  refine sw_seq ?_
  refine sa_start [] mixed ?_
  refine sa_take 0 rfl rfl (by kernel_rfl) (by kernel_rfl) (by kernel_rfl) exacts_nil (pu_mv rfl rfl) ?_
  refine sa_take 1 rfl rfl (by kernel_rfl) (by kernel_rfl) (by kernel_rfl) exacts_nil (pu_nc rfl rfl rfl) ?_
  first
    | refine sa_take 2 rfl rfl (by kernel_rfl) (by kernel_rfl) (by kernel_rfl) exacts_nil (pu_fieldAddr_ptr rfl rfl fo_30_0) ?_
    | refine sa_take 2 rfl rfl (by kernel_rfl) (by kernel_rfl) (by kernel_rfl) exacts_nil (pu_fieldAddr_rp rfl rfl fo_30_0) ?_
    | refine sa_take 2 rfl rfl (by kernel_rfl) (by kernel_rfl) (by kernel_rfl) exacts_nil (pu_fieldAddr_ref rfl rfl fo_30_0) ?_
  refine sa_take 5 rfl rfl (by kernel_rfl) (by kernel_rfl) (by kernel_rfl) exacts_nil (pu_mv rfl rfl) ?_
  refine sa_take 6 rfl rfl (by kernel_rfl) (by kernel_rfl) (by kernel_rfl) exacts_nil (pu_nc rfl rfl rfl) ?_
  first
    | refine sa_take 7 rfl rfl (by kernel_rfl) (by kernel_rfl) (by kernel_rfl) exacts_nil (pu_fieldAddr_ptr rfl rfl fo_30_0) ?_
    | refine sa_take 7 rfl rfl (by kernel_rfl) (by kernel_rfl) (by kernel_rfl) exacts_nil (pu_fieldAddr_rp rfl rfl fo_30_0) ?_
    | refine sa_take 7 rfl rfl (by kernel_rfl) (by kernel_rfl) (by kernel_rfl) exacts_nil (pu_fieldAddr_ref rfl rfl fo_30_0) ?_
  refine sa_take 11 rfl rfl (by kernel_rfl) (by kernel_rfl) (by kernel_rfl) exacts_nil (pu_mv rfl rfl) ?_
  refine sa_take 12 rfl rfl (by kernel_rfl) (by kernel_rfl) (by kernel_rfl) exacts_nil (pu_mv rfl rfl) ?_
  refine sa_take 13 rfl rfl (by kernel_rfl) (by kernel_rfl) (by kernel_rfl) exacts_nil (pu_bin rfl rfl rfl rfl) ?_
  refine sa_one 3 (by kernel_rfl) rfl ?_
  refine sl_callf rfl rfl cal_19 (bytes_ok p1 v3 (encInt a) (rd q (encInt a) false :: .blk p2 [.own v4 ((encInt b).map byteV)] :: []) (by omega)) ?_ ?_ ?_ (fun _ _ h => h.elim)
  · repeat (first | exact Weaks.nil | refine Weaks.cons (Weak.junk _) ?_ | refine Weaks.cons (Weak.refl _) ?_ | refine Weaks.cons (Weak.toV rfl) ?_ | refine Weaks.cons (Weak.ref _) ?_ | refine Weaks.cons (Weak.rp_agg _) ?_)
  · repeat (first | exact Sub.refl _ | exact Sub.none _ | refine Sub.p0 ?_ | refine Sub.p1 ?_ | refine Sub.p2 ?_ | refine Sub.p3 ?_ | refine Sub.p4 ?_ | refine Sub.p5 ?_ | refine Sub.p6 ?_ | refine Sub.drop ?_)
  rintro _ _ ⟨rfl, rfl⟩
  refine sl_nil ⟨exacts_nil, ?_⟩
  refine sa_take 4 rfl rfl (by kernel_rfl) (by kernel_rfl) (by kernel_rfl) exacts_nil (pu_bytes_str rfl rfl u_26 u_5 u_9) ?_
  refine sa_one 8 (by kernel_rfl) rfl ?_
  refine sl_callf rfl rfl cal_19 (bytes_ok p2 v4 (encInt b) (rd q (encInt a) false :: .blk p1 [.own v3 ((encInt a).map byteV)] :: []) (by omega)) ?_ ?_ ?_ (fun _ _ h => h.elim)
  · repeat (first | exact Weaks.nil | refine Weaks.cons (Weak.junk _) ?_ | refine Weaks.cons (Weak.refl _) ?_ | refine Weaks.cons (Weak.toV rfl) ?_ | refine Weaks.cons (Weak.ref _) ?_ | refine Weaks.cons (Weak.rp_agg _) ?_)
  · repeat (first | exact Sub.refl _ | exact Sub.none _ | refine Sub.p0 ?_ | refine Sub.p1 ?_ | refine Sub.p2 ?_ | refine Sub.p3 ?_ | refine Sub.p4 ?_ | refine Sub.p5 ?_ | refine Sub.p6 ?_ | refine Sub.drop ?_)
  rintro _ _ ⟨rfl, rfl⟩
  refine sl_nil ⟨exacts_nil, ?_⟩
  refine sa_take 9 rfl rfl (by kernel_rfl) (by kernel_rfl) (by kernel_rfl) exacts_nil (pu_bytes_str rfl rfl u_26 u_5 u_9) ?_
  refine sa_take 10 rfl rfl (by kernel_rfl) (by kernel_rfl) (by kernel_rfl) exacts_nil (pu_str rfl rfl rfl rfl) ?_
  refine sa_take 14 rfl rfl (by kernel_rfl) (by kernel_rfl) (by kernel_rfl) exacts_nil (pu_bool_eq rfl rfl rfl u_4) ?_
  refine sa_take 15 rfl rfl (by kernel_rfl) (by kernel_rfl) (by kernel_rfl) exacts_nil (pu_mv rfl rfl) ?_
  refine sa_take_y 16 rfl rfl rfl rfl (codeInts_1 ha hb) (by kernel_rfl) (by kernel_rfl) (by kernel_rfl) exacts_nil (pu_mv rfl rfl) ?_
  refine sa_take_y 18 rfl rfl rfl rfl (codeInts_1 ha hb) (by kernel_rfl) (by kernel_rfl) (by kernel_rfl) exacts_nil (pu_mv rfl rfl) ?_
  refine sa_one 17 (by kernel_rfl) rfl ?_
  refine sl_guard_y rfl rfl rfl (codeInts_1 ha hb) ?_
  refine sl_callf rfl rfl cal_20 (pInt_ok q (some (encInt a)) _ (.blk p1 [.own v3 ((encInt a).map byteV)] :: .blk p2 [.own v4 ((encInt b).map byteV)] :: []) ⟨rfl, by omega⟩) ?_ ?_ ?_ (fun _ _ h => h.elim)
  · repeat (first | exact Weaks.nil | refine Weaks.cons (Weak.junk _) ?_ | refine Weaks.cons (Weak.refl _) ?_ | refine Weaks.cons (Weak.toV rfl) ?_ | refine Weaks.cons (Weak.ref _) ?_ | refine Weaks.cons (Weak.rp_agg _) ?_)
  · repeat (first | exact Sub.refl _ | exact Sub.none _ | refine Sub.p0 ?_ | refine Sub.p1 ?_ | refine Sub.p2 ?_ | refine Sub.p3 ?_ | refine Sub.p4 ?_ | refine Sub.p5 ?_ | refine Sub.p6 ?_ | refine Sub.drop ?_)
  rintro _ _ ⟨rfl, c2, h2, rfl⟩
  refine sl_nil ⟨exacts_nil, ?_⟩
  rw [dec_int ha] at h2 ⊢
  refine sa_take_y 19 rfl rfl rfl rfl (codeInts_1 ha hb) (by kernel_rfl) (by kernel_rfl) (by kernel_rfl) exacts_nil (pu_bin rfl rfl rfl rfl) ?_
  refine sa_take 20 rfl rfl (by kernel_rfl) (by kernel_rfl) (by kernel_rfl) exacts_nil (pu_pk_t rfl rfl (codeInts_1 ha hb) rfl) ?_
  refine sa_take 21 rfl rfl (by kernel_rfl) (by kernel_rfl) (by kernel_rfl) exacts_nil (pu_mv rfl rfl) ?_
  refine sa_take_y 22 rfl rfl rfl rfl (by simp) (by kernel_rfl) (by kernel_rfl) (by kernel_rfl) exacts_nil (pu_mv rfl rfl) ?_
  refine sa_one 23 (by kernel_rfl) rfl ?_
  refine sl_guard_y rfl rfl rfl (by simp) ?_
  refine sl_callf rfl rfl cal_21 (done_ok q (some []) c2 (.blk p1 [.own v3 ((encInt a).map byteV)] :: .blk p2 [.own v4 ((encInt b).map byteV)] :: []) h2) ?_ ?_ ?_ (fun _ _ h => h.elim)
  · repeat (first | exact Weaks.nil | refine Weaks.cons (Weak.junk _) ?_ | refine Weaks.cons (Weak.refl _) ?_ | refine Weaks.cons (Weak.toV rfl) ?_ | refine Weaks.cons (Weak.ref _) ?_ | refine Weaks.cons (Weak.rp_agg _) ?_)
  · repeat (first | exact Sub.refl _ | exact Sub.none _ | refine Sub.p0 ?_ | refine Sub.p1 ?_ | refine Sub.p2 ?_ | refine Sub.p3 ?_ | refine Sub.p4 ?_ | refine Sub.p5 ?_ | refine Sub.p6 ?_ | refine Sub.drop ?_)
  rintro _ _ ⟨rfl, rfl⟩
  refine sl_nil ⟨exacts_nil, ?_⟩
  refine sa_take_y 24 rfl rfl rfl rfl (by simp) (by kernel_rfl) (by kernel_rfl) (by kernel_rfl) exacts_nil (pu_bin rfl rfl rfl rfl) ?_
  refine sa_take 25 rfl rfl (by kernel_rfl) (by kernel_rfl) (by kernel_rfl) exacts_nil (pu_pk_t rfl rfl (by simp) rfl) ?_
  refine sa_take 26 rfl rfl (by kernel_rfl) (by kernel_rfl) (by kernel_rfl) exacts_nil (pu_mv rfl rfl) ?_
  refine sa_take_y 27 rfl rfl rfl rfl (rfl) (by kernel_rfl) (by kernel_rfl) (by kernel_rfl) exacts_nil (pu_mv rfl rfl) ?_
  refine sa_take_y 29 rfl rfl rfl rfl (rfl) (by kernel_rfl) (by kernel_rfl) (by kernel_rfl) exacts_nil (pu_mv rfl rfl) ?_
  refine sa_one 28 (by kernel_rfl) rfl ?_
  refine sl_guard_y rfl rfl rfl (rfl) ?_
  refine sl_callf rfl rfl cal_22 (zig_ok a (c2 :: .blk p1 [.own v3 ((encInt a).map byteV)] :: .blk p2 [.own v4 ((encInt b).map byteV)] :: []) ha) ?_ ?_ ?_ (fun _ _ h => h.elim)
  · repeat (first | exact Weaks.nil | refine Weaks.cons (Weak.junk _) ?_ | refine Weaks.cons (Weak.refl _) ?_ | refine Weaks.cons (Weak.toV rfl) ?_ | refine Weaks.cons (Weak.ref _) ?_ | refine Weaks.cons (Weak.rp_agg _) ?_)
  · repeat (first | exact Sub.refl _ | exact Sub.none _ | refine Sub.p0 ?_ | refine Sub.p1 ?_ | refine Sub.p2 ?_ | refine Sub.p3 ?_ | refine Sub.p4 ?_ | refine Sub.p5 ?_ | refine Sub.p6 ?_ | refine Sub.drop ?_)
  rintro _ _ ⟨rfl, rfl⟩
  refine sl_nil ⟨exacts_nil, ?_⟩
  refine sa_one 30 (by kernel_rfl) rfl ?_
  refine sl_guard_y rfl rfl rfl (rfl) ?_
  refine sl_callf rfl rfl cal_22 (zig_ok b (c2 :: .blk p1 [.own v3 ((encInt a).map byteV)] :: .blk p2 [.own v4 ((encInt b).map byteV)] :: []) hb) ?_ ?_ ?_ (fun _ _ h => h.elim)
  · repeat (first | exact Weaks.nil | refine Weaks.cons (Weak.junk _) ?_ | refine Weaks.cons (Weak.refl _) ?_ | refine Weaks.cons (Weak.toV rfl) ?_ | refine Weaks.cons (Weak.ref _) ?_ | refine Weaks.cons (Weak.rp_agg _) ?_)
  · repeat (first | exact Sub.refl _ | exact Sub.none _ | refine Sub.p0 ?_ | refine Sub.p1 ?_ | refine Sub.p2 ?_ | refine Sub.p3 ?_ | refine Sub.p4 ?_ | refine Sub.p5 ?_ | refine Sub.p6 ?_ | refine Sub.drop ?_)
  rintro _ _ ⟨rfl, rfl⟩
  refine sl_nil ⟨exacts_nil, ?_⟩
  refine sa_take_y 31 rfl rfl rfl rfl (rfl) (by kernel_rfl) (by kernel_rfl) (by kernel_rfl) exacts_nil (pu_bin rfl rfl rfl rfl) ?_
  refine sa_take_y 32 rfl rfl rfl rfl (rfl) (by kernel_rfl) (by kernel_rfl) (by kernel_rfl) exacts_nil (pu_mv rfl rfl) ?_
  refine sa_case_at 61 rfl (fun hz => ?_) (fun hz => ?_)
  · refine sa_take_n 33 rfl rfl rfl rfl hz (by kernel_rfl) (by kernel_rfl) (by kernel_rfl) exacts_nil ?_
    refine sa_take_n 34 rfl rfl rfl rfl hz (by kernel_rfl) (by kernel_rfl) (by kernel_rfl) exacts_nil ?_
    refine sa_take_n 35 rfl rfl rfl rfl hz (by kernel_rfl) (by kernel_rfl) (by kernel_rfl) exacts_nil ?_
    refine sa_take_n 36 rfl rfl rfl rfl hz (by kernel_rfl) (by kernel_rfl) (by kernel_rfl) exacts_nil ?_
    refine sa_take_n 37 rfl rfl rfl rfl hz (by kernel_rfl) (by kernel_rfl) (by kernel_rfl) exacts_nil ?_
    refine sa_take_n 38 rfl rfl rfl rfl hz (by kernel_rfl) (by kernel_rfl) (by kernel_rfl) exacts_nil ?_
    refine sa_take_n 39 rfl rfl rfl rfl hz (by kernel_rfl) (by kernel_rfl) (by kernel_rfl) exacts_nil ?_
    refine sa_take_n 40 rfl rfl rfl rfl hz (by kernel_rfl) (by kernel_rfl) (by kernel_rfl) exacts_nil ?_
    refine sa_take_n 41 rfl rfl rfl rfl hz (by kernel_rfl) (by kernel_rfl) (by kernel_rfl) exacts_nil ?_
    refine sa_take_n 42 rfl rfl rfl rfl hz (by kernel_rfl) (by kernel_rfl) (by kernel_rfl) exacts_nil ?_
    refine sa_take_n 43 rfl rfl rfl rfl hz (by kernel_rfl) (by kernel_rfl) (by kernel_rfl) exacts_nil ?_
    refine sa_take_y 44 rfl rfl rfl rfl (rfl) (by kernel_rfl) (by kernel_rfl) (by kernel_rfl) exacts_nil (pu_pk_t rfl rfl hz rfl) ?_
    refine sa_take 45 rfl rfl (by kernel_rfl) (by kernel_rfl) (by kernel_rfl) exacts_nil (pu_pk_t rfl rfl (rfl) rfl) ?_
    refine sa_one 46 (by kernel_rfl) rfl ?_
    refine sl_as rfl rfl rfl ?_
    refine sl_nil ⟨exacts_nil, ?_⟩
    refine sa_done (by kernel_rfl) ?_
    refine sw_ret ⟨rfl, _, _, res_one rfl rfl, ?_, ⟨rfl, rfl⟩⟩
    repeat (first | exact Sub.refl _ | exact Sub.none _ | refine Sub.p0 ?_ | refine Sub.p1 ?_ | refine Sub.p2 ?_ | refine Sub.p3 ?_ | refine Sub.p4 ?_ | refine Sub.p5 ?_ | refine Sub.p6 ?_ | refine Sub.drop ?_)
  · refine sa_take_y 33 rfl rfl rfl rfl hz (by kernel_rfl) (by kernel_rfl) (by kernel_rfl) exacts_nil (pu_mv rfl rfl) ?_
    refine sa_take_y 34 rfl rfl rfl rfl hz (by kernel_rfl) (by kernel_rfl) (by kernel_rfl) exacts_nil (pu_nc rfl rfl rfl) ?_
    first
      | refine sa_take_y 35 rfl rfl rfl rfl hz (by kernel_rfl) (by kernel_rfl) (by kernel_rfl) exacts_nil (pu_fieldAddr_ptr rfl rfl fo_30_0) ?_
      | refine sa_take_y 35 rfl rfl rfl rfl hz (by kernel_rfl) (by kernel_rfl) (by kernel_rfl) exacts_nil (pu_fieldAddr_rp rfl rfl fo_30_0) ?_
      | refine sa_take_y 35 rfl rfl rfl rfl hz (by kernel_rfl) (by kernel_rfl) (by kernel_rfl) exacts_nil (pu_fieldAddr_ref rfl rfl fo_30_0) ?_
    refine sa_take_y 38 rfl rfl rfl rfl hz (by kernel_rfl) (by kernel_rfl) (by kernel_rfl) exacts_nil (pu_mv rfl rfl) ?_
    refine sa_take_y 39 rfl rfl rfl rfl hz (by kernel_rfl) (by kernel_rfl) (by kernel_rfl) exacts_nil (pu_nc rfl rfl rfl) ?_
    first
      | refine sa_take_y 40 rfl rfl rfl rfl hz (by kernel_rfl) (by kernel_rfl) (by kernel_rfl) exacts_nil (pu_fieldAddr_ptr rfl rfl fo_30_0) ?_
      | refine sa_take_y 40 rfl rfl rfl rfl hz (by kernel_rfl) (by kernel_rfl) (by kernel_rfl) exacts_nil (pu_fieldAddr_rp rfl rfl fo_30_0) ?_
      | refine sa_take_y 40 rfl rfl rfl rfl hz (by kernel_rfl) (by kernel_rfl) (by kernel_rfl) exacts_nil (pu_fieldAddr_ref rfl rfl fo_30_0) ?_
    refine sa_one 36 (by kernel_rfl) rfl ?_
    refine sl_guard_y rfl rfl rfl hz ?_
    refine sl_callf rfl rfl cal_19 (bytes_ok p1 v3 (encInt a) (.blk p2 [.own v4 ((encInt b).map byteV)] :: []) (by omega)) ?_ ?_ ?_ (fun _ _ h => h.elim)
    · repeat (first | exact Weaks.nil | refine Weaks.cons (Weak.junk _) ?_ | refine Weaks.cons (Weak.refl _) ?_ | refine Weaks.cons (Weak.toV rfl) ?_ | refine Weaks.cons (Weak.ref _) ?_ | refine Weaks.cons (Weak.rp_agg _) ?_)
    · repeat (first | exact Sub.refl _ | exact Sub.none _ | refine Sub.p0 ?_ | refine Sub.p1 ?_ | refine Sub.p2 ?_ | refine Sub.p3 ?_ | refine Sub.p4 ?_ | refine Sub.p5 ?_ | refine Sub.p6 ?_ | refine Sub.drop ?_)
    rintro _ _ ⟨rfl, rfl⟩
    refine sl_nil ⟨exacts_nil, ?_⟩
    first
      | refine sa_take_y 37 rfl rfl rfl rfl hz (by kernel_rfl) (by kernel_rfl) (by kernel_rfl) exacts_nil (pu_len rfl rfl ⟨_, u_26⟩) ?_
      | refine sa_take_y 37 rfl rfl rfl rfl hz (by kernel_rfl) (by kernel_rfl) (by kernel_rfl) exacts_nil (pu_len_sl rfl rfl ⟨_, u_26⟩) ?_
    refine sa_one 41 (by kernel_rfl) rfl ?_
    refine sl_guard_y rfl rfl rfl hz ?_
    refine sl_callf rfl rfl cal_19 (bytes_ok p2 v4 (encInt b) [] (by omega)) ?_ ?_ ?_ (fun _ _ h => h.elim)
    · repeat (first | exact Weaks.nil | refine Weaks.cons (Weak.junk _) ?_ | refine Weaks.cons (Weak.refl _) ?_ | refine Weaks.cons (Weak.toV rfl) ?_ | refine Weaks.cons (Weak.ref _) ?_ | refine Weaks.cons (Weak.rp_agg _) ?_)
    · repeat (first | exact Sub.refl _ | exact Sub.none _ | refine Sub.p0 ?_ | refine Sub.p1 ?_ | refine Sub.p2 ?_ | refine Sub.p3 ?_ | refine Sub.p4 ?_ | refine Sub.p5 ?_ | refine Sub.p6 ?_ | refine Sub.drop ?_)
    rintro _ _ ⟨rfl, rfl⟩
    refine sl_nil ⟨exacts_nil, ?_⟩
    first
      | refine sa_take_y 42 rfl rfl rfl rfl hz (by kernel_rfl) (by kernel_rfl) (by kernel_rfl) exacts_nil (pu_len rfl rfl ⟨_, u_26⟩) ?_
      | refine sa_take_y 42 rfl rfl rfl rfl hz (by kernel_rfl) (by kernel_rfl) (by kernel_rfl) exacts_nil (pu_len_sl rfl rfl ⟨_, u_26⟩) ?_
    refine sa_take_y 43 rfl rfl rfl rfl hz (by kernel_rfl) (by kernel_rfl) (by kernel_rfl) exacts_nil (pu_bin rfl rfl rfl rfl) ?_
    refine sa_take_y 44 rfl rfl rfl rfl (rfl) (by kernel_rfl) (by kernel_rfl) (by kernel_rfl) exacts_nil (pu_pk_f rfl rfl hz rfl) ?_
    refine sa_take 45 rfl rfl (by kernel_rfl) (by kernel_rfl) (by kernel_rfl) exacts_nil (pu_pk_t rfl rfl (rfl) rfl) ?_
    refine sa_one 46 (by kernel_rfl) rfl ?_
    refine sl_as rfl rfl rfl ?_
    refine sl_nil ⟨exacts_nil, ?_⟩
    refine sa_done (by kernel_rfl) ?_
    refine sw_ret ⟨rfl, _, _, res_one rfl rfl, ?_, ⟨congrArg (fun z => D.val (.bool z)) (ints_short hz), rfl⟩⟩
    repeat (first | exact Sub.refl _ | exact Sub.none _ | refine Sub.p0 ?_ | refine Sub.p1 ?_ | refine Sub.p2 ?_ | refine Sub.p3 ?_ | refine Sub.p4 ?_ | refine Sub.p5 ?_ | refine Sub.p6 ?_ | refine Sub.drop ?_)

end Go.Proofs.Ytioechdfghglhaa
