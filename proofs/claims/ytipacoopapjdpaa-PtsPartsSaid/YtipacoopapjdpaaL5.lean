/- Merged: the program logic, plain laws and walks (each part's first row says what it is); no conditions of its own. -/
import Derived.Test.YtipacoopapjdpaaL2
import Derived.Test.YtipacoopapjdpaaProg
import Derived.Test.YtipacoopapjdpaaL3
import Derived.Test.YtipacoopapjdpaaL4

/- What the type table says: printed by a program of this session. -/
namespace Go.Proofs.Ytipacoopapjdpaa
open Go Go.RowKit SL

theorem ag_2 : aggOf Try.prog 2 = some false := by kernel_rfl
theorem ag_24 : aggOf Try.prog 24 = some true := by kernel_rfl
theorem ag_25 : aggOf Try.prog 25 = some false := by kernel_rfl
theorem ag_28 : aggOf Try.prog 28 = some false := by kernel_rfl
theorem ag_3 : aggOf Try.prog 3 = some false := by kernel_rfl
theorem ag_30 : aggOf Try.prog 30 = some false := by kernel_rfl
theorem ag_32 : aggOf Try.prog 32 = some true := by kernel_rfl
theorem ag_38 : aggOf Try.prog 38 = some false := by kernel_rfl
theorem ag_4 : aggOf Try.prog 4 = some false := by kernel_rfl
theorem ag_40 : aggOf Try.prog 40 = some true := by kernel_rfl
theorem ag_5 : aggOf Try.prog 5 = some false := by kernel_rfl
theorem ag_55 : aggOf Try.prog 55 = some true := by kernel_rfl
theorem ag_57 : aggOf Try.prog 57 = some false := by kernel_rfl
theorem ag_62 : aggOf Try.prog 62 = some false := by kernel_rfl
theorem ag_9 : aggOf Try.prog 9 = some false := by kernel_rfl
theorem bi_112 : buildInfo Try.prog 112 = some [] := by kernel_rfl
theorem bi_24 : buildInfo Try.prog 24 = some [(0, 1), (1, 1), (2, 1), (3, 1)] := by kernel_rfl
theorem bi_32 : buildInfo Try.prog 32 = some [(0, 1), (1, 1), (2, 1), (3, 1), (4, 1), (5, 1)] := by kernel_rfl
theorem bi_40 : buildInfo Try.prog 40 = some [(0, 1), (1, 1)] := by kernel_rfl
theorem bi_55 : buildInfo Try.prog 55 = some [(0, 1), (1, 1)] := by kernel_rfl
theorem bi_60 : buildInfo Try.prog 60 = some [(0, 1), (1, 1)] := by kernel_rfl
theorem bi_83 : buildInfo Try.prog 83 = some [(0, 1)] := by kernel_rfl
theorem bi_89 : buildInfo Try.prog 89 = some [(0, 1), (1, 1)] := by kernel_rfl
theorem cal_10 : callable Try.prog 10 = true := by kernel_rfl
theorem cal_11 : callable Try.prog 11 = true := by kernel_rfl
theorem cal_12 : callable Try.prog 12 = true := by kernel_rfl
theorem cal_13 : callable Try.prog 13 = true := by kernel_rfl
theorem cal_14 : callable Try.prog 14 = true := by kernel_rfl
theorem cal_15 : callable Try.prog 15 = true := by kernel_rfl
theorem cal_16 : callable Try.prog 16 = true := by kernel_rfl
theorem cal_17 : callable Try.prog 17 = true := by kernel_rfl
theorem cal_18 : callable Try.prog 18 = true := by kernel_rfl
theorem cal_19 : callable Try.prog 19 = true := by kernel_rfl
theorem cal_20 : callable Try.prog 20 = true := by kernel_rfl
theorem cal_21 : callable Try.prog 21 = true := by kernel_rfl
theorem cal_22 : callable Try.prog 22 = true := by kernel_rfl
theorem cal_23 : callable Try.prog 23 = true := by kernel_rfl
theorem cal_24 : callable Try.prog 24 = true := by kernel_rfl
theorem cal_25 : callable Try.prog 25 = true := by kernel_rfl
theorem cal_26 : callable Try.prog 26 = true := by kernel_rfl
theorem cal_27 : callable Try.prog 27 = true := by kernel_rfl
theorem cal_28 : callable Try.prog 28 = true := by kernel_rfl
theorem cal_29 : callable Try.prog 29 = true := by kernel_rfl
theorem cal_30 : callable Try.prog 30 = true := by kernel_rfl
theorem cal_31 : callable Try.prog 31 = true := by kernel_rfl
theorem cal_32 : callable Try.prog 32 = true := by kernel_rfl
theorem cal_33 : callable Try.prog 33 = true := by kernel_rfl
theorem cal_34 : callable Try.prog 34 = true := by kernel_rfl
theorem cal_35 : callable Try.prog 35 = true := by kernel_rfl
theorem cal_36 : callable Try.prog 36 = true := by kernel_rfl
theorem cal_37 : callable Try.prog 37 = true := by kernel_rfl
theorem cal_38 : callable Try.prog 38 = true := by kernel_rfl
theorem cal_39 : callable Try.prog 39 = true := by kernel_rfl
theorem cal_40 : callable Try.prog 40 = true := by kernel_rfl
theorem cal_41 : callable Try.prog 41 = true := by kernel_rfl
theorem cal_42 : callable Try.prog 42 = true := by kernel_rfl
theorem cal_43 : callable Try.prog 43 = true := by kernel_rfl
theorem cal_44 : callable Try.prog 44 = true := by kernel_rfl
theorem cal_45 : callable Try.prog 45 = true := by kernel_rfl
theorem cal_46 : callable Try.prog 46 = true := by kernel_rfl
theorem cal_47 : callable Try.prog 47 = true := by kernel_rfl
theorem cal_48 : callable Try.prog 48 = true := by kernel_rfl
theorem cal_49 : callable Try.prog 49 = true := by kernel_rfl
theorem cal_50 : callable Try.prog 50 = true := by kernel_rfl
theorem cal_51 : callable Try.prog 51 = true := by kernel_rfl
theorem cal_52 : callable Try.prog 52 = true := by kernel_rfl
theorem cal_53 : callable Try.prog 53 = true := by kernel_rfl
theorem cal_54 : callable Try.prog 54 = true := by kernel_rfl
theorem cal_55 : callable Try.prog 55 = true := by kernel_rfl
theorem cal_56 : callable Try.prog 56 = true := by kernel_rfl
theorem cal_57 : callable Try.prog 57 = true := by kernel_rfl
theorem cal_58 : callable Try.prog 58 = true := by kernel_rfl
theorem cal_59 : callable Try.prog 59 = true := by kernel_rfl
theorem cal_60 : callable Try.prog 60 = true := by kernel_rfl
theorem cal_61 : callable Try.prog 61 = true := by kernel_rfl
theorem cal_62 : callable Try.prog 62 = true := by kernel_rfl
theorem cal_63 : callable Try.prog 63 = true := by kernel_rfl
theorem cal_64 : callable Try.prog 64 = true := by kernel_rfl
theorem cal_65 : callable Try.prog 65 = true := by kernel_rfl
theorem cal_66 : callable Try.prog 66 = true := by kernel_rfl
theorem cal_70 : callable Try.prog 70 = true := by kernel_rfl
theorem cal_71 : callable Try.prog 71 = true := by kernel_rfl
theorem cal_72 : callable Try.prog 72 = true := by kernel_rfl
theorem cal_73 : callable Try.prog 73 = true := by kernel_rfl
theorem cal_74 : callable Try.prog 74 = true := by kernel_rfl
theorem cal_75 : callable Try.prog 75 = true := by kernel_rfl
theorem cal_8 : callable Try.prog 8 = true := by kernel_rfl
theorem cal_9 : callable Try.prog 9 = true := by kernel_rfl
theorem el_5 : elOf Try.prog 5 = some (1, 1) := by kernel_rfl
theorem el_55 : elOf Try.prog 55 = some (2, 16) := by kernel_rfl
theorem el_9 : elOf Try.prog 9 = some (1, 16) := by kernel_rfl
theorem fi_40_1 : fieldInfo Try.prog 40 1 = some (false, 1, 1) := by kernel_rfl
theorem fo_24_0 : fieldOff Try.prog 24 0 = some 0 := by kernel_rfl
theorem fo_24_1 : fieldOff Try.prog 24 1 = some 1 := by kernel_rfl
theorem fo_24_2 : fieldOff Try.prog 24 2 = some 2 := by kernel_rfl
theorem fo_24_3 : fieldOff Try.prog 24 3 = some 3 := by kernel_rfl
theorem fo_32_0 : fieldOff Try.prog 32 0 = some 0 := by kernel_rfl
theorem fo_32_1 : fieldOff Try.prog 32 1 = some 1 := by kernel_rfl
theorem fo_32_2 : fieldOff Try.prog 32 2 = some 2 := by kernel_rfl
theorem fo_32_3 : fieldOff Try.prog 32 3 = some 3 := by kernel_rfl
theorem fo_32_4 : fieldOff Try.prog 32 4 = some 4 := by kernel_rfl
theorem fo_32_5 : fieldOff Try.prog 32 5 = some 5 := by kernel_rfl
theorem fo_40_0 : fieldOff Try.prog 40 0 = some 0 := by kernel_rfl
theorem fo_40_1 : fieldOff Try.prog 40 1 = some 1 := by kernel_rfl
theorem fo_55_0 : fieldOff Try.prog 55 0 = some 0 := by kernel_rfl
theorem fo_55_1 : fieldOff Try.prog 55 1 = some 1 := by kernel_rfl
theorem fo_60_0 : fieldOff Try.prog 60 0 = some 0 := by kernel_rfl
theorem fo_60_1 : fieldOff Try.prog 60 1 = some 1 := by kernel_rfl
theorem fo_81_0 : fieldOff Try.prog 81 0 = some 0 := by kernel_rfl
theorem fo_83_0 : fieldOff Try.prog 83 0 = some 0 := by kernel_rfl
theorem fo_89_0 : fieldOff Try.prog 89 0 = some 0 := by kernel_rfl
theorem fo_89_1 : fieldOff Try.prog 89 1 = some 1 := by kernel_rfl
theorem ii_20 : isIf Try.prog 20 = true := by kernel_rfl
theorem is_2 : (Try.prog.underlying 2).isSome = true := by kernel_rfl
theorem is_3 : (Try.prog.underlying 3).isSome = true := by kernel_rfl
theorem is_5 : (Try.prog.underlying 5).isSome = true := by kernel_rfl
theorem is_62 : (Try.prog.underlying 62).isSome = true := by kernel_rfl
theorem mixed : Try.prog.follows .mixedOrders = true := by kernel_rfl
theorem ni_112 : notIf Try.prog 112 = true := by kernel_rfl
theorem sz_112 : szOf Try.prog 112 = some 0 := by kernel_rfl
theorem sz_2 : szOf Try.prog 2 = some 1 := by kernel_rfl
theorem sz_24 : szOf Try.prog 24 = some 4 := by kernel_rfl
theorem sz_25 : szOf Try.prog 25 = some 1 := by kernel_rfl
theorem sz_28 : szOf Try.prog 28 = some 1 := by kernel_rfl
theorem sz_3 : szOf Try.prog 3 = some 1 := by kernel_rfl
theorem sz_30 : szOf Try.prog 30 = some 1 := by kernel_rfl
theorem sz_32 : szOf Try.prog 32 = some 6 := by kernel_rfl
theorem sz_38 : szOf Try.prog 38 = some 1 := by kernel_rfl
theorem sz_4 : szOf Try.prog 4 = some 1 := by kernel_rfl
theorem sz_40 : szOf Try.prog 40 = some 2 := by kernel_rfl
theorem sz_5 : szOf Try.prog 5 = some 1 := by kernel_rfl
theorem sz_55 : szOf Try.prog 55 = some 2 := by kernel_rfl
theorem sz_62 : szOf Try.prog 62 = some 1 := by kernel_rfl
theorem sz_9 : szOf Try.prog 9 = some 1 := by kernel_rfl
theorem u_109 : Try.prog.underlying 109 = some (.slice 62) := by kernel_rfl
theorem u_110 : Try.prog.underlying 110 = some (.slice 2) := by kernel_rfl
theorem u_2 : Try.prog.underlying 2 = some (.int .i64) := by kernel_rfl
theorem u_28 : Try.prog.underlying 28 = some (.slice 5) := by kernel_rfl
theorem u_3 : Try.prog.underlying 3 = some (.int .i64) := by kernel_rfl
theorem u_30 : Try.prog.underlying 30 = some (.slice 55) := by kernel_rfl
theorem u_37 : Try.prog.underlying 37 = some (.slice 40) := by kernel_rfl
theorem u_38 : Try.prog.underlying 38 = some (.slice 9) := by kernel_rfl
theorem u_4 : Try.prog.underlying 4 = some .bool := by kernel_rfl
theorem u_5 : Try.prog.underlying 5 = some (.int .u8) := by kernel_rfl
theorem u_62 : Try.prog.underlying 62 = some (.int .u64) := by kernel_rfl
theorem u_9 : Try.prog.underlying 9 = some .string := by kernel_rfl
theorem u_92 : Try.prog.underlying 92 = some (.int .u64) := by kernel_rfl
theorem zd_112 : zeroDs Try.prog 112 = some [] := by kernel_rfl
theorem zd_2 : zeroDs Try.prog 2 = some [.val (.int .i64 0)] := by kernel_rfl
theorem zd_24 : zeroDs Try.prog 24 = some [.val (.int .i64 0), .val (.str []), .val (.str []), .val (.int .i64 0)] := by kernel_rfl
theorem zd_32 : zeroDs Try.prog 32 = some [.val (.int .i64 0), .val (.int .i64 0), .val (.int .i64 0), .fix [], .val (.str []), .val (.int .i64 0)] := by kernel_rfl
theorem zd_4 : zeroDs Try.prog 4 = some [.val (.bool false)] := by kernel_rfl
theorem zd_40 : zeroDs Try.prog 40 = some [.val (.bool false), .fix []] := by kernel_rfl
theorem zd_55 : zeroDs Try.prog 55 = some [.val (.int .i64 0), .val (.int .i64 0)] := by kernel_rfl
theorem zd_60 : zeroDs Try.prog 60 = some [.val .nil, .val (.bool false)] := by kernel_rfl
theorem zd_62 : zeroDs Try.prog 62 = some [.val (.int .u64 0)] := by kernel_rfl
theorem zd_83 : zeroDs Try.prog 83 = some [.fix []] := by kernel_rfl
theorem zd_89 : zeroDs Try.prog 89 = some [.fix [], .val (.bool false)] := by kernel_rfl
theorem zd_9 : zeroDs Try.prog 9 = some [.val (.str [])] := by kernel_rfl
theorem zs_2 : (zeroOf Try.prog 2).isSome = true := by kernel_rfl
theorem zs_40 : (zeroOf Try.prog 40).isSome = true := by kernel_rfl
theorem zs_5 : (zeroOf Try.prog 5).isSome = true := by kernel_rfl
theorem zs_55 : (zeroOf Try.prog 55).isSome = true := by kernel_rfl
theorem zs_62 : (zeroOf Try.prog 62).isSome = true := by kernel_rfl
theorem zs_9 : (zeroOf Try.prog 9).isSome = true := by kernel_rfl
end Go.Proofs.Ytipacoopapjdpaa

/- Walks: printed by a program of this session out of its script CovB. -/
namespace Go.Proofs.Ytipacoopapjdpaa
set_option linter.unusedVariables false
set_option linter.unusedSimpArgs false
set_option maxRecDepth 4000
set_option maxHeartbeats 4000000
open Go Go.RowKit SL


theorem cov_txts (n : Nat) : Covers Try.prog n 38 fun xs => ∃ al : List (List UInt8), xs = [.list (al.map strV)] ∧ (∀ a ∈ al, a.length ≤ maxLen) ∧ al.length ≤ maxLen :=
  cov_strs Try.underlying38 Try.underlying9 (by kernel_rfl) n
theorem cov_pt (n : Nat) : Covers Try.prog n 40 fun xs => ∃ a : Pt, xs = (ptV a).cells ∧ True := by
  cases n with
  | zero => exact covers_zero
  | succ n =>
    refine (covers_struct Try.underlying40 (Ss := [fun xs => ∃ a : Bool, xs = (boolV a).cells ∧ True, fun xs => ∃ al : List (List UInt8), xs = [.list (al.map strV)] ∧ (∀ a ∈ al, a.length ≤ maxLen) ∧ al.length ≤ maxLen])
      ⟨rfl, cov_bool Try.underlying4 n, by kernel_rfl, cov_txts n, show (_ : Nat) = _ by kernel_rfl⟩).mono fun xs h => ?_
    obtain ⟨_, _, rfl, ⟨b, rfl, _⟩, _, _, rfl, ⟨al, rfl, _, _⟩, rfl⟩ := h
    exact ⟨⟨b, al⟩, rfl, trivial⟩
theorem cov_pts {t : TypeId} (ht : Try.prog.underlying t = some (.slice 40)) (he : (0 : Nat) = 0) (hc : Try.prog.cellsOf 40 = 2) (n : Nat) :
    Covers Try.prog n t fun xs => ∃ al : List Pt, xs = [.list (al.map ptV)] ∧ (∀ a ∈ al, True) ∧ al.length ≤ maxLen :=
  cov_list ptV .agg (fun _ => rfl) ht hc (by decide) cov_pt n

end Go.Proofs.Ytipacoopapjdpaa

/- Walks: printed by a program of this session out of its script PtsA. -/
namespace Go.Proofs.Ytipacoopapjdpaa
set_option linter.unusedVariables false
set_option linter.unusedSimpArgs false
set_option maxRecDepth 4000
set_option maxHeartbeats 4000000
open Go Go.RowKit SL


theorem strs_take {a b : List Txt} {k : Nat} (ha : k < a.length) (hb : k < b.length) (h : a.take k = b.take k) (e : a[k] = b[k]) : a.take (k + 1) = b.take (k + 1) := by
  rw [List.take_add_one, List.take_add_one, List.getElem?_eq_getElem ha, List.getElem?_eq_getElem hb, h, e]
theorem strs_ff {a b : List Txt} {k : Nat} (ha : k < a.length) (hb : k < b.length) (e : (a[k] != b[k]) = true) : D.val (.bool false) = .val (.bool (decide (a = b))) := by
  rw [decide_eq_false (fun h => by subst h; simp at e)]

/-- Are two lists of texts one? -/
theorem strs_ok (a b : List Txt) (σ : List Chunk) (ha : a.length ≤ 1000000) : FSpec Try.prog 43 [.val (.list (a.map strV)), .val (.list (b.map strV))] σ (fun d σ' => d = .val (.bool (decide (a = b))) ∧ σ' = σ) := by
  refine spec_of_sw Try.func43 rfl ?_
  refine sw_seq ?_
  refine sl_region ?_
  refine sl_as rfl rfl rfl ?_
  refine sl_nil ?_
  refine sw_seq ?_
  refine sw_seq ?_
  refine sl_region ?_
  refine sl_mv rfl rfl rfl ?_
  first
    | refine sl_len rfl rfl rfl ⟨_, u_38⟩ ?_
    | refine sl_len_sl rfl rfl rfl ⟨_, u_38⟩ ?_
    | refine sl_len_w _ rfl rfl rfl ⟨_, u_38⟩ ?_
  refine sl_mv rfl rfl rfl ?_
  first
    | refine sl_len rfl rfl rfl ⟨_, u_38⟩ ?_
    | refine sl_len_sl rfl rfl rfl ⟨_, u_38⟩ ?_
    | refine sl_len_w _ rfl rfl rfl ⟨_, u_38⟩ ?_
  refine sl_bin rfl rfl rfl rfl rfl ?_
  refine sl_nil ?_
  refine sw_cond rfl (fun h0 => ?_) (fun h0 => ?_)
  · refine sw_seq ?_
    refine sl_region ?_
    refine sl_as rfl rfl rfl ?_
    refine sl_nil ?_
    refine sw_ret ⟨rfl, _, _, res_one rfl rfl, ?_, ⟨isnt (fun h => by subst h; simp at h0), rfl⟩⟩
    repeat constructor
  have h0' : a.length = b.length := by simp only [List.length_map] at h0; have := (by simpa using h0 : (a.length : Int) = b.length); omega
  refine sw_skip ?_
  refine sw_seq ?_
  refine sw_seq ?_
  refine sl_region ?_
  refine sl_as rfl rfl rfl ?_
  refine sl_nil ?_
  refine sw_block ?_
  refine sw_loopw (fun nX sX δX σX => ∃ (k : Nat), (a.length - k) = nX ∧ sX = ⟨26, (.cons 0 (.val (.list (a.map strV))) (.cons 1 (.val (.list (b.map strV))) (.cons 5 (.val (.int .i64 (k : Int))) .nil)))⟩ ∧ δX = [] ∧ σX = σ ∧ (k ≤ a.length) ∧ (a.take k = b.take k)) ?_ ?_
  · refine ⟨_, _, _, ?_, ?_, 0, rfl, rfl, rfl, rfl, (Nat.zero_le _), (rfl)⟩
    · exact ⟨rfl, by repeat constructor⟩
    · repeat constructor
  rintro nX sX δX σX ⟨k, rfl, rfl, rfl, rfl, hk0, heq⟩
  refine sw_seq ?_
  refine sw_seq ?_
  refine sl_region ?_
  refine sl_mv rfl rfl rfl ?_
  refine sl_mv rfl rfl rfl ?_
  first
    | refine sl_len rfl rfl rfl ⟨_, u_38⟩ ?_
    | refine sl_len_sl rfl rfl rfl ⟨_, u_38⟩ ?_
    | refine sl_len_w _ rfl rfl rfl ⟨_, u_38⟩ ?_
  refine sl_bin rfl rfl rfl rfl rfl ?_
  refine sl_nil ?_
  refine sw_cond rfl (fun hk => ?_) (fun hk => ?_)
  · have hk : k < a.length := by simpa using hk
    refine sw_skip ?_
    refine sw_seq ?_
    refine sw_block ?_
    refine sw_seq ?_
    refine sa_start [] mixed ?_
    refine sa_take 0 rfl rfl (by kernel_rfl) .nil (pu_mv rfl rfl) ?_
    refine sa_take 1 rfl rfl (by kernel_rfl) .nil (pu_mv rfl rfl) ?_
    refine sa_take 2 rfl rfl (by kernel_rfl) .nil (pu_indexAddr rfl rfl rfl u_38 sz_9 (by omega) (idx_map hk) rfl) ?_
    refine sa_take 3 rfl rfl (by kernel_rfl) .nil (pu_load_rp1 rfl rfl ag_9 rfl) ?_
    refine sa_take 4 rfl rfl (by kernel_rfl) .nil (pu_mv rfl rfl) ?_
    refine sa_take 5 rfl rfl (by kernel_rfl) .nil (pu_mv rfl rfl) ?_
    refine sa_take 6 rfl rfl (by kernel_rfl) .nil (pu_indexAddr rfl rfl rfl u_38 sz_9 (by omega) (idx_map (by omega : k < b.length)) rfl) ?_
    refine sa_take 7 rfl rfl (by kernel_rfl) .nil (pu_load_rp1 rfl rfl ag_9 rfl) ?_
    refine sa_take 8 rfl rfl (by kernel_rfl) .nil (pu_str rfl rfl rfl rfl) ?_
    refine sa_done (by kernel_rfl) ?_
    refine sw_cond rfl (fun h1 => ?_) (fun h1 => ?_)
    · refine sw_seq ?_
      refine sl_region ?_
      refine sl_as rfl rfl rfl ?_
      refine sl_nil ?_
      refine sw_ret ⟨rfl, _, _, res_one rfl rfl, ?_, ⟨strs_ff hk (by omega) h1, rfl⟩⟩
      repeat constructor
    refine sw_skip ?_
    refine sl_region ?_
    refine sl_mv rfl rfl rfl ?_
    first
      | refine sl_inc rfl rfl rfl rfl (by omega) ?_
      | refine sl_add rfl rfl rfl rfl (by constructor <;> omega) ?_
      | refine sl_bin rfl rfl rfl rfl rfl ?_
    refine sl_as rfl rfl rfl ?_
    refine sl_nil ?_
    refine ⟨_, by omega, _, _, ?_, ?_, k + 1, rfl, rfl, rfl, rfl, (by omega), (strs_take hk (by omega) heq (by simpa using h1))⟩
    · exact ⟨rfl, by repeat constructor⟩
    · repeat constructor
  have hk : k = a.length := by have := of_decide_eq_false hk; simp only [List.length_map] at this; omega
  refine sw_exit ?_
  refine sw_seq ?_
  refine sl_region ?_
  refine sl_as rfl rfl rfl ?_
  refine sl_nil ?_
  refine sw_ret ⟨rfl, _, _, res_one rfl rfl, ?_, ⟨isso (by rw [← List.take_length (l := a), ← List.take_length (l := b), ← h0', ← hk]; exact heq), rfl⟩⟩
  repeat constructor

theorem has_next {l : List Txt} {s : Txt} {k : Nat} (hk : k < l.length) (h : s ∉ l.take k) (e : (l[k] == s) = false) : s ∉ l.take (k + 1) := by
  rw [List.take_add_one, List.getElem?_eq_getElem hk]
  intro hm
  rcases List.mem_append.mp hm with hm | hm
  · exact h hm
  · simp at hm; subst hm; simp at e
theorem has_tt {l : List Txt} {s : Txt} {k : Nat} (hk : k < l.length) (e : (l[k] == s) = true) : D.val (.bool true) = .val (.bool (decide (s ∈ l))) := by
  rw [decide_eq_true]
  have : l[k] = s := by simpa using e
  rw [← this]; exact List.getElem_mem hk

/-- Is a text among others? -/
theorem has_ok (l : List Txt) (s : Txt) (σ : List Chunk) (hl : l.length ≤ 1000000) : FSpec Try.prog 48 [.val (.list (l.map strV)), .val (.str s)] σ (fun d σ' => d = .val (.bool (decide (s ∈ l))) ∧ σ' = σ) := by
  refine spec_of_sw Try.func48 rfl ?_
  refine sw_seq ?_
  refine sl_region ?_
  refine sl_as rfl rfl rfl ?_
  refine sl_nil ?_
  refine sw_seq ?_
  refine sw_seq ?_
  refine sl_region ?_
  refine sl_as rfl rfl rfl ?_
  refine sl_nil ?_
  refine sw_block ?_
  refine sw_loopw (fun nX sX δX σX => ∃ (k : Nat), (l.length - k) = nX ∧ sX = ⟨18, (.cons 0 (.val (.list (l.map strV))) (.cons 1 (.val (.str s)) (.cons 5 (.val (.int .i64 (k : Int))) .nil)))⟩ ∧ δX = [] ∧ σX = σ ∧ (k ≤ l.length) ∧ (s ∉ l.take k)) ?_ ?_
  · refine ⟨_, _, _, ?_, ?_, 0, rfl, rfl, rfl, rfl, (Nat.zero_le _), (by simp)⟩
    · exact ⟨rfl, by repeat constructor⟩
    · repeat constructor
  rintro nX sX δX σX ⟨k, rfl, rfl, rfl, rfl, hk0, hno⟩
  refine sw_seq ?_
  refine sw_seq ?_
  refine sl_region ?_
  refine sl_mv rfl rfl rfl ?_
  refine sl_mv rfl rfl rfl ?_
  first
    | refine sl_len rfl rfl rfl ⟨_, u_38⟩ ?_
    | refine sl_len_sl rfl rfl rfl ⟨_, u_38⟩ ?_
    | refine sl_len_w _ rfl rfl rfl ⟨_, u_38⟩ ?_
  refine sl_bin rfl rfl rfl rfl rfl ?_
  refine sl_nil ?_
  refine sw_cond rfl (fun hk => ?_) (fun hk => ?_)
  · have hk : k < l.length := by simpa using hk
    refine sw_skip ?_
    refine sw_seq ?_
    refine sw_block ?_
    refine sw_seq ?_
    refine sl_region ?_
    refine sl_mv rfl rfl rfl ?_
    refine sl_mv rfl rfl rfl ?_
    refine sl_indexAddr' rfl rfl rfl rfl u_38 sz_9 (by omega) (idx_map hk) rfl ?_
    first
      | refine sl_load_rp1 rfl rfl rfl ag_9 rfl ?_
      | refine sl_load_blk1 rfl rfl rfl ag_9 (by repeat constructor) rfl ?_
    refine sl_mv rfl rfl rfl ?_
    refine sl_str rfl rfl rfl rfl rfl ?_
    refine sl_nil ?_
    refine sw_cond rfl (fun h1 => ?_) (fun h1 => ?_)
    · refine sw_seq ?_
      refine sl_region ?_
      refine sl_as rfl rfl rfl ?_
      refine sl_nil ?_
      refine sw_ret ⟨rfl, _, _, res_one rfl rfl, ?_, ⟨has_tt hk h1, rfl⟩⟩
      repeat constructor
    refine sw_skip ?_
    refine sl_region ?_
    refine sl_mv rfl rfl rfl ?_
    first
      | refine sl_inc rfl rfl rfl rfl (by omega) ?_
      | refine sl_add rfl rfl rfl rfl (by constructor <;> omega) ?_
      | refine sl_bin rfl rfl rfl rfl rfl ?_
    refine sl_as rfl rfl rfl ?_
    refine sl_nil ?_
    refine ⟨_, by omega, _, _, ?_, ?_, k + 1, rfl, rfl, rfl, rfl, (by omega), (has_next hk hno h1)⟩
    · exact ⟨rfl, by repeat constructor⟩
    · repeat constructor
  have hk : k = l.length := by have := of_decide_eq_false hk; simp only [List.length_map] at this; omega
  refine sw_exit ?_
  refine sw_seq ?_
  refine sl_region ?_
  refine sl_as rfl rfl rfl ?_
  refine sl_nil ?_
  refine sw_ret ⟨rfl, _, _, res_one rfl rfl, ?_, ⟨isnt (by rw [hk, List.take_length] at hno; exact hno), rfl⟩⟩
  repeat constructor

/-- Where a text stands among others; -1 where it doesn't. -/
def posL (l : List Txt) (s : Txt) : Int := if s ∈ l then (l.idxOf s : Int) else -1
theorem posL_ge (l : List Txt) (s : Txt) : D.val (.bool (decide (posL l s ≥ 0))) = .val (.bool (decide (s ∈ l))) := by
  unfold posL
  by_cases h : s ∈ l
  · rw [if_pos h, decide_eq_true h, decide_eq_true (by omega)]
  · rw [if_neg h, decide_eq_false h, decide_eq_false (by omega)]
theorem posL_at {l : List Txt} {s : Txt} {k : Nat} (hk : k < l.length) (h : s ∉ l.take k) (e : (s == l[k]) = true) : posL l s = (k : Int) := by
  have he : s = l[k] := by simpa using e
  have hm : s ∈ l := by rw [he]; exact List.getElem_mem hk
  unfold posL
  rw [if_pos hm]
  have e1 : l = l.take k ++ s :: l.drop (k + 1) := by rw [he, ← List.drop_eq_getElem_cons hk, List.take_append_drop]
  have e2 : l.idxOf s = k := by
    rw [e1, List.idxOf_append, if_neg h, List.idxOf_cons_self, List.length_take]; omega
  rw [e2]

theorem index_ok (l : List Txt) (s : Txt) (σ : List Chunk) (hl : l.length ≤ 1000000) : FSpec Try.prog 66 [.val (.list (l.map strV)), .val (.str s)] σ (fun d σ' => d = .val (.int .i64 (posL l s)) ∧ σ' = σ) := by
  refine spec_of_sw Try.func66 rfl ?_
  refine sw_seq ?_
  refine sl_region ?_
  refine sl_as rfl rfl rfl ?_
  refine sl_nil ?_
  refine sw_seq ?_
  refine sw_seq ?_
  refine sl_region ?_
  refine sl_mv rfl rfl rfl ?_
  first
    | refine sl_len rfl rfl rfl ⟨_, u_38⟩ ?_
    | refine sl_len_sl rfl rfl rfl ⟨_, u_38⟩ ?_
    | refine sl_len_w _ rfl rfl rfl ⟨_, u_38⟩ ?_
  refine sl_mv rfl rfl rfl ?_
  refine sl_nil ?_
  refine sw_block ?_
  refine sw_loopw (fun nX sX δX σX => ∃ (k : Nat), (l.length - k) = nX ∧ sX = ⟨19, (.cons 0 (.val (.list (l.map strV))) (.cons 1 (.val (.str s)) (.cons 7 (.val (.int .i64 (l.map strV).length)) (.cons 8 (.val (.int .i64 (k : Int))) .nil))))⟩ ∧ δX = [] ∧ σX = σ ∧ (k ≤ l.length) ∧ (s ∉ l.take k)) ?_ ?_
  · refine ⟨_, _, _, ?_, ?_, 0, rfl, rfl, rfl, rfl, (Nat.zero_le _), (by simp)⟩
    · exact ⟨rfl, by repeat constructor⟩
    · repeat constructor
  rintro nX sX δX σX ⟨k, rfl, rfl, rfl, rfl, hk0, hno⟩
  refine sw_seq ?_
  refine sl_region ?_
  refine sl_bin rfl rfl rfl rfl rfl ?_
  refine sl_nil ?_
  refine sw_seq ?_
  refine sw_cond rfl (fun hk => ?_) (fun hk => ?_)
  · have hk : k < l.length := by simpa using hk
    refine sw_skip ?_
    refine sw_seq ?_
    refine sw_block ?_
    refine sw_seq ?_
    refine sl_region ?_
    refine sl_mv rfl rfl rfl ?_
    refine sl_as rfl rfl rfl ?_
    refine sl_nil ?_
    refine sw_seq ?_
    refine sl_region ?_
    refine sl_mv rfl rfl rfl ?_
    refine sl_mv rfl rfl rfl ?_
    refine sl_mv rfl rfl rfl ?_
    refine sl_indexAddr' rfl rfl rfl rfl u_38 sz_9 (by omega) (idx_map hk) rfl ?_
    first
      | refine sl_load_rp1 rfl rfl rfl ag_9 rfl ?_
      | refine sl_load_blk1 rfl rfl rfl ag_9 (by repeat constructor) rfl ?_
    refine sl_str rfl rfl rfl rfl rfl ?_
    refine sl_nil ?_
    refine sw_cond rfl (fun h1 => ?_) (fun h1 => ?_)
    · refine sw_seq ?_
      refine sl_region ?_
      refine sl_mv rfl rfl rfl ?_
      refine sl_as rfl rfl rfl ?_
      refine sl_nil ?_
      refine sw_ret ⟨rfl, _, _, res_one rfl rfl, ?_, ⟨congrArg (fun z => D.val (.int .i64 z)) (posL_at hk hno h1).symm, rfl⟩⟩
      repeat constructor
    refine sw_skip ?_
    refine sl_region ?_
    first
      | refine sl_inc rfl rfl rfl rfl (by omega) ?_
      | refine sl_add rfl rfl rfl rfl (by constructor <;> omega) ?_
      | refine sl_bin rfl rfl rfl rfl rfl ?_
    refine sl_mv rfl rfl rfl ?_
    refine sl_nil ?_
    refine ⟨_, by omega, _, _, ?_, ?_, k + 1, rfl, rfl, rfl, rfl, (by omega), (has_next hk hno (by rw [← h1]; exact Bool.beq_comm ..))⟩
    · exact ⟨rfl, by repeat constructor⟩
    · repeat constructor
  have hk : k = l.length := by have := of_decide_eq_false hk; simp only [List.length_map] at this; omega
  refine sw_exit ?_
  refine sw_seq ?_
  refine sl_region ?_
  refine sl_as rfl rfl rfl ?_
  refine sl_nil ?_
  refine sw_ret ⟨rfl, _, _, res_one rfl rfl, ?_, ⟨congrArg (fun z => D.val (.int .i64 z)) (by unfold posL; rw [if_neg (by rw [hk, List.take_length] at hno; exact hno)]), rfl⟩⟩
  repeat constructor

theorem contains_ok (l : List Txt) (s : Txt) (σ : List Chunk) (hl : l.length ≤ 1000000) : FSpec Try.prog 47 [.val (.list (l.map strV)), .val (.str s)] σ (fun d σ' => d = .val (.bool (decide (s ∈ l))) ∧ σ' = σ) := by
  refine spec_of_sw Try.func47 rfl ?_
  refine sw_seq ?_
  refine sl_region ?_
  refine sl_as rfl rfl rfl ?_
  refine sl_nil ?_
  refine sw_seq ?_
  refine sl_region ?_
  refine sl_mv rfl rfl rfl ?_
  refine sl_mv rfl rfl rfl ?_
  refine sl_callf rfl rfl cal_66 (index_ok l s σ hl) ?_ ?_ ?_ (fun _ _ h => h.elim)
  · repeat constructor
  · repeat constructor
  rintro _ _ ⟨rfl, hσ⟩
  have hσ2 := hσ.symm
  subst hσ2
  refine sl_bin rfl rfl rfl rfl rfl ?_
  refine sl_set 8 (.val (.bool (decide (s ∈ l)))) (posL_ge l s) ?_
  refine sl_as rfl rfl rfl ?_
  refine sl_nil ?_
  refine sw_ret ⟨rfl, _, _, res_one rfl rfl, ?_, ⟨rfl, rfl⟩⟩
  repeat constructor

/-- The closure of Leq: is a text not among the other's cells? -/
theorem leqfn_ok (b : Pt) (s : Txt) (σ : List Chunk) (hb : b.cells.length ≤ 1000000) : FSpec Try.prog 46 [.val (.str s), .rp (ptV b).cells] σ (fun d σ' => d = .val (.bool (!decide (s ∈ b.cells))) ∧ σ' = σ) := by
  refine spec_of_sw Try.func46 rfl ?_
  refine sw_seq ?_
  refine sl_region ?_
  refine sl_as rfl rfl rfl ?_
  refine sl_nil ?_
  refine sw_seq ?_
  refine sl_region ?_
  first
    | refine sl_fieldAddr_ptr rfl rfl rfl fo_40_1 ?_
    | refine sl_fieldAddr_rp rfl rfl rfl fo_40_1 ?_
    | refine sl_fieldAddr_ref rfl rfl rfl fo_40_1 ?_
  first
    | refine sl_load_rp1 rfl rfl rfl ag_38 rfl ?_
    | refine sl_load_blk1 rfl rfl rfl ag_38 (by repeat constructor) rfl ?_
  refine sl_mv rfl rfl rfl ?_
  refine sl_callf rfl rfl cal_47 (contains_ok b.cells s σ hb) ?_ ?_ ?_ (fun _ _ h => h.elim)
  · repeat constructor
  · repeat constructor
  rintro _ _ ⟨rfl, hσ⟩
  have hσ2 := hσ.symm
  subst hσ2
  refine sl_not rfl rfl rfl ?_
  refine sl_as rfl rfl rfl ?_
  refine sl_nil ?_
  refine sw_ret ⟨rfl, _, _, res_one rfl rfl, ?_, ⟨rfl, rfl⟩⟩
  repeat constructor

end Go.Proofs.Ytipacoopapjdpaa

/- Walks: printed by a program of this session out of its script PtsB. -/
namespace Go.Proofs.Ytipacoopapjdpaa
set_option linter.unusedVariables false
set_option linter.unusedSimpArgs false
set_option maxRecDepth 4000
set_option maxHeartbeats 4000000
open Go Go.RowKit SL


theorem all_next {l m : List Txt} {k : Nat} (hk : k < l.length) (h : ∀ x ∈ l.take k, x ∈ m) (e : l[k] ∈ m) : ∀ x ∈ l.take (k + 1), x ∈ m := by
  rw [List.take_add_one, List.getElem?_eq_getElem hk]
  intro x hx
  rcases List.mem_append.mp hx with hx | hx
  · exact h x hx
  · simp at hx; subst hx; exact e
theorem all_tt {l m : List Txt} (h : ∀ x ∈ l, x ∈ m) : (l.all fun x => decide (x ∈ m)) = true := by
  rw [List.all_eq_true]; intro x hx; simpa using h x hx
theorem all_ff {l m : List Txt} {k : Nat} (hk : k < l.length) (e : l[k] ∉ m) : (l.all fun x => decide (x ∈ m)) = false := by
  rw [Bool.eq_false_iff]; intro h
  rw [List.all_eq_true] at h
  exact e (by simpa using h _ (List.getElem_mem hk))

/-- slices.IndexFunc, with Leq's closure. -/
theorem indexf_ok (l : List Txt) (b : Pt) (σ : List Chunk) (hl : l.length ≤ 1000000) (hb : b.cells.length ≤ 1000000) :
    FSpec Try.prog 65 [.val (.list (l.map strV)), .func 46 [.rp (ptV b).cells]] σ (fun d σ' => (∃ z : Int, d = .val (.int .i64 z) ∧ decide (z ≥ 0) = !(l.all fun x => decide (x ∈ b.cells))) ∧ σ' = σ) := by
  refine spec_of_sw Try.func65 rfl ?_
  refine sw_seq ?_
  refine sl_region ?_
  refine sl_as rfl rfl rfl ?_
  refine sl_nil ?_
  refine sw_seq ?_
  refine sw_seq ?_
  refine sl_region ?_
  refine sl_mv rfl rfl rfl ?_
  first
    | refine sl_len rfl rfl rfl ⟨_, u_38⟩ ?_
    | refine sl_len_sl rfl rfl rfl ⟨_, u_38⟩ ?_
    | refine sl_len_w _ rfl rfl rfl ⟨_, u_38⟩ ?_
  refine sl_mv rfl rfl rfl ?_
  refine sl_nil ?_
  refine sw_block ?_
  refine sw_loopw (fun nX sX δX σX => ∃ (k : Nat), (l.length - k) = nX ∧ sX = ⟨19, (.cons 0 (.val (.list (l.map strV))) (.cons 1 (.func 46 [.rp (ptV b).cells]) (.cons 7 (.val (.int .i64 (l.map strV).length)) (.cons 8 (.val (.int .i64 (k : Int))) .nil))))⟩ ∧ δX = [] ∧ σX = σ ∧ (k ≤ l.length) ∧ (∀ x ∈ l.take k, x ∈ b.cells)) ?_ ?_
  · refine ⟨_, _, _, ?_, ?_, 0, rfl, rfl, rfl, rfl, (Nat.zero_le _), (by simp)⟩
    · exact ⟨rfl, by repeat constructor⟩
    · repeat constructor
  rintro nX sX δX σX ⟨k, rfl, rfl, rfl, rfl, hk0, hall⟩
  refine sw_seq ?_
  refine sl_region ?_
  refine sl_bin rfl rfl rfl rfl rfl ?_
  refine sl_nil ?_
  refine sw_seq ?_
  refine sw_cond rfl (fun hk => ?_) (fun hk => ?_)
  · have hk : k < l.length := by simpa using hk
    refine sw_skip ?_
    refine sw_seq ?_
    refine sw_block ?_
    refine sw_seq ?_
    refine sl_region ?_
    refine sl_mv rfl rfl rfl ?_
    refine sl_as rfl rfl rfl ?_
    refine sl_nil ?_
    refine sw_seq ?_
    refine sl_region ?_
    refine sl_mv rfl rfl rfl ?_
    refine sl_mv rfl rfl rfl ?_
    refine sl_mv rfl rfl rfl ?_
    refine sl_indexAddr' rfl rfl rfl rfl u_38 sz_9 (by omega) (idx_map hk) rfl ?_
    first
      | refine sl_load_rp1 rfl rfl rfl ag_9 rfl ?_
      | refine sl_load_blk1 rfl rfl rfl ag_9 (by repeat constructor) rfl ?_
    refine sl_callv rfl rfl rfl cal_46 (leqfn_ok b l[k] σX hb) ?_ ?_ ?_ (fun _ _ h => h.elim)
    · repeat constructor
    · repeat constructor
    rintro _ _ ⟨rfl, hσ⟩
    have hσ2 := hσ.symm
    subst hσ2
    refine sl_nil ?_
    refine sw_cond rfl (fun h1 => ?_) (fun h1 => ?_)
    · refine sw_seq ?_
      refine sl_region ?_
      refine sl_mv rfl rfl rfl ?_
      refine sl_as rfl rfl rfl ?_
      refine sl_nil ?_
      refine sw_ret ⟨rfl, _, _, res_one rfl rfl, ?_, ⟨⟨(k : Int), rfl, by rw [all_ff hk (by simpa using h1)]; simp⟩, rfl⟩⟩
      repeat constructor
    refine sw_skip ?_
    refine sl_region ?_
    first
      | refine sl_inc rfl rfl rfl rfl (by omega) ?_
      | refine sl_add rfl rfl rfl rfl (by constructor <;> omega) ?_
      | refine sl_bin rfl rfl rfl rfl rfl ?_
    refine sl_mv rfl rfl rfl ?_
    refine sl_nil ?_
    refine ⟨_, by omega, _, _, ?_, ?_, k + 1, rfl, rfl, rfl, rfl, (by omega), (all_next hk hall (by simpa using h1))⟩
    · exact ⟨rfl, by repeat constructor⟩
    · repeat constructor
  have hk : k = l.length := by have := of_decide_eq_false hk; simp only [List.length_map] at this; omega
  refine sw_exit ?_
  refine sw_seq ?_
  refine sl_region ?_
  refine sl_as rfl rfl rfl ?_
  refine sl_nil ?_
  refine sw_ret ⟨rfl, _, _, res_one rfl rfl, ?_, ⟨⟨-1, rfl, by rw [all_tt (by rw [hk, List.take_length] at hall; exact hall)]; rfl⟩, rfl⟩⟩
  repeat constructor

theorem containsf_ok (l : List Txt) (b : Pt) (σ : List Chunk) (hl : l.length ≤ 1000000) (hb : b.cells.length ≤ 1000000) :
    FSpec Try.prog 45 [.val (.list (l.map strV)), .func 46 [.rp (ptV b).cells]] σ (fun d σ' => d = .val (.bool (!(l.all fun x => decide (x ∈ b.cells)))) ∧ σ' = σ) := by
  refine spec_of_sw Try.func45 rfl ?_
  refine sw_seq ?_
  refine sl_region ?_
  refine sl_as rfl rfl rfl ?_
  refine sl_nil ?_
  refine sw_seq ?_
  refine sl_region ?_
  refine sl_mv rfl rfl rfl ?_
  refine sl_mv rfl rfl rfl ?_
  refine sl_callf rfl rfl cal_65 (indexf_ok l b σ hl hb) ?_ ?_ ?_ (fun _ _ h => h.elim)
  · repeat constructor
  · repeat constructor
  rintro _ _ ⟨⟨z, rfl, hz⟩, hσ⟩
  have hσ2 := hσ.symm
  subst hσ2
  refine sl_bin rfl rfl rfl rfl rfl ?_
  refine sl_set 8 (.val (.bool (!(l.all fun x => decide (x ∈ b.cells))))) (congrArg (fun b => D.val (.bool b)) hz) ?_
  refine sl_as rfl rfl rfl ?_
  refine sl_nil ?_
  refine sw_ret ⟨rfl, _, _, res_one rfl rfl, ?_, ⟨rfl, rfl⟩⟩
  repeat constructor

theorem ple_ok (a b : Pt) (σ : List Chunk) (ha : a.cells.length ≤ 1000000) (hb : b.cells.length ≤ 1000000) :
    FSpec Try.prog 19 [.val (ptV a), .val (ptV b)] σ (fun d σ' => d = .val (.bool (leqP a b)) ∧ σ' = σ) := by
  refine spec_of_sw Try.func19 rfl ?_
  refine sw_seq ?_
  refine sl_region ?_
  refine sl_bx_imm rfl rfl rfl rfl rfl ?_
  refine sl_bx_imm rfl rfl rfl rfl rfl ?_
  refine sl_as rfl rfl rfl ?_
  refine sl_nil ?_
  refine sw_seq ?_
  refine sl_region ?_
  first
    | refine sl_fieldAddr_ptr rfl rfl rfl fo_40_0 ?_
    | refine sl_fieldAddr_rp rfl rfl rfl fo_40_0 ?_
    | refine sl_fieldAddr_ref rfl rfl rfl fo_40_0 ?_
  first
    | refine sl_load_rp1 rfl rfl rfl ag_4 rfl ?_
    | refine sl_load_blk1 rfl rfl rfl ag_4 (by repeat constructor) rfl ?_
  refine sl_not rfl rfl rfl ?_
  refine sl_mv rfl rfl rfl ?_
  refine sl_case_at 8 rfl (fun h1 => ?_) (fun h1 => ?_)
  · have e1 : a.null = false := by simpa using h1
    refine sl_guard_n rfl rfl rfl h1 ?_
    refine sl_guard_n rfl rfl rfl h1 ?_
    refine sl_pk_t rfl rfl rfl h1 rfl ?_
    refine sl_mv rfl rfl rfl ?_
    refine sl_guard_y rfl rfl rfl (rfl) ?_
    first
      | refine sl_fieldAddr_ptr rfl rfl rfl fo_40_1 ?_
      | refine sl_fieldAddr_rp rfl rfl rfl fo_40_1 ?_
      | refine sl_fieldAddr_ref rfl rfl rfl fo_40_1 ?_
    refine sl_guard_y rfl rfl rfl (rfl) ?_
    first
      | refine sl_load_rp1 rfl rfl rfl ag_38 rfl ?_
      | refine sl_load_blk1 rfl rfl rfl ag_38 (by repeat constructor) rfl ?_
    refine sl_guard_y rfl rfl rfl (rfl) ?_
    refine sl_mf rfl rfl (.cons rfl .nil) ?_
    refine sl_guard_y rfl rfl rfl (rfl) ?_
    refine sl_callf rfl rfl cal_45 (containsf_ok a.cells b σ ha hb) ?_ ?_ ?_ (fun _ _ h => h.elim)
    · repeat constructor
    · repeat constructor
    rintro _ _ ⟨rfl, hσ⟩
    have hσ2 := hσ.symm
    subst hσ2
    refine sl_guard_y rfl rfl rfl (rfl) ?_
    refine sl_not rfl rfl rfl ?_
    refine sl_pk_t rfl rfl rfl (rfl) rfl ?_
    refine sl_as rfl rfl rfl ?_
    refine sl_nil ?_
    refine sw_ret ⟨rfl, _, _, res_one rfl rfl, ?_, ⟨congrArg (fun b => D.val (.bool b)) (by unfold leqP; rw [e1]; simp), rfl⟩⟩
    repeat constructor
  have e1 : a.null = true := by simpa using h1
  refine sl_guard_y rfl rfl rfl h1 ?_
  first
    | refine sl_fieldAddr_ptr rfl rfl rfl fo_40_0 ?_
    | refine sl_fieldAddr_rp rfl rfl rfl fo_40_0 ?_
    | refine sl_fieldAddr_ref rfl rfl rfl fo_40_0 ?_
  refine sl_guard_y rfl rfl rfl h1 ?_
  first
    | refine sl_load_rp1 rfl rfl rfl ag_4 rfl ?_
    | refine sl_load_blk1 rfl rfl rfl ag_4 (by repeat constructor) rfl ?_
  refine sl_pk_f rfl rfl rfl h1 rfl ?_
  refine sl_mv rfl rfl rfl ?_
  refine sl_case_at 12 rfl (fun h2 => ?_) (fun h2 => ?_)
  · have e2 : b.null = true := h2
    refine sl_guard_y rfl rfl rfl h2 ?_
    first
      | refine sl_fieldAddr_ptr rfl rfl rfl fo_40_1 ?_
      | refine sl_fieldAddr_rp rfl rfl rfl fo_40_1 ?_
      | refine sl_fieldAddr_ref rfl rfl rfl fo_40_1 ?_
    refine sl_guard_y rfl rfl rfl h2 ?_
    first
      | refine sl_load_rp1 rfl rfl rfl ag_38 rfl ?_
      | refine sl_load_blk1 rfl rfl rfl ag_38 (by repeat constructor) rfl ?_
    refine sl_guard_y rfl rfl rfl h2 ?_
    refine sl_mf rfl rfl (.cons rfl .nil) ?_
    refine sl_guard_y rfl rfl rfl h2 ?_
    refine sl_callf rfl rfl cal_45 (containsf_ok a.cells b σ ha hb) ?_ ?_ ?_ (fun _ _ h => h.elim)
    · repeat constructor
    · repeat constructor
    rintro _ _ ⟨rfl, hσ⟩
    have hσ2 := hσ.symm
    subst hσ2
    refine sl_guard_y rfl rfl rfl h2 ?_
    refine sl_not rfl rfl rfl ?_
    refine sl_pk_t rfl rfl rfl h2 rfl ?_
    refine sl_as rfl rfl rfl ?_
    refine sl_nil ?_
    refine sw_ret ⟨rfl, _, _, res_one rfl rfl, ?_, ⟨congrArg (fun b => D.val (.bool b)) (by unfold leqP; rw [e1, e2]; simp), rfl⟩⟩
    repeat constructor
  have e2 : b.null = false := h2
  refine sl_guard_n rfl rfl rfl h2 ?_
  refine sl_guard_n rfl rfl rfl h2 ?_
  refine sl_guard_n rfl rfl rfl h2 ?_
  refine sl_guard_n rfl rfl rfl h2 ?_
  refine sl_guard_n rfl rfl rfl h2 ?_
  refine sl_pk_f rfl rfl rfl h2 rfl ?_
  refine sl_as rfl rfl rfl ?_
  refine sl_nil ?_
  refine sw_ret ⟨rfl, _, _, res_one rfl rfl, ?_, ⟨congrArg (fun b => D.val (.bool b)) (by unfold leqP; rw [e1, e2]; rfl), rfl⟩⟩
  repeat constructor

theorem rple_ok (a b : Pt) (σ : List Chunk) (ha : a.cells.length ≤ 1000000) (hb : b.cells.length ≤ 1000000) :
    FSpec Try.prog 20 [.val (ptV a), .val (ptV b)] σ (fun d σ' => d = .val (.bool (leqP a b)) ∧ σ' = σ) := by
  refine spec_of_sw Try.func20 rfl ?_
  refine sw_seq ?_
  refine sl_region ?_
  refine sl_bx_imm rfl rfl rfl rfl rfl ?_
  refine sl_bx_imm rfl rfl rfl rfl rfl ?_
  refine sl_as rfl rfl rfl ?_
  refine sl_nil ?_
  refine sw_seq ?_
  refine sw_seq ?_
  refine sl_region ?_
  refine sl_as rfl rfl rfl ?_
  refine sl_nil ?_
  refine sw_block ?_
  refine sw_loopw (fun nX sX δX σX => ∃ (k : Nat), (a.cells.length - k) = nX ∧ sX = ⟨29, (.cons 2 (.rp (ptV a).cells) (.cons 3 (.rp (ptV b).cells) (.cons 5 (.val (.int .i64 (k : Int))) .nil)))⟩ ∧ δX = [] ∧ σX = σ ∧ (k ≤ a.cells.length) ∧ (∀ x ∈ a.cells.take k, x ∈ b.cells)) ?_ ?_
  · refine ⟨_, _, _, ?_, ?_, 0, rfl, rfl, rfl, rfl, (Nat.zero_le _), (by simp)⟩
    · exact ⟨rfl, by repeat constructor⟩
    · repeat constructor
  rintro nX sX δX σX ⟨k, rfl, rfl, rfl, rfl, hk0, hall⟩
  refine sw_seq ?_
  refine sw_seq ?_
  refine sl_region ?_
  refine sl_mv rfl rfl rfl ?_
  first
    | refine sl_fieldAddr_ptr rfl rfl rfl fo_40_1 ?_
    | refine sl_fieldAddr_rp rfl rfl rfl fo_40_1 ?_
    | refine sl_fieldAddr_ref rfl rfl rfl fo_40_1 ?_
  first
    | refine sl_load_rp1 rfl rfl rfl ag_38 rfl ?_
    | refine sl_load_blk1 rfl rfl rfl ag_38 (by repeat constructor) rfl ?_
  first
    | refine sl_len rfl rfl rfl ⟨_, u_38⟩ ?_
    | refine sl_len_sl rfl rfl rfl ⟨_, u_38⟩ ?_
    | refine sl_len_w _ rfl rfl rfl ⟨_, u_38⟩ ?_
  refine sl_bin rfl rfl rfl rfl rfl ?_
  refine sl_nil ?_
  refine sw_cond rfl (fun hk => ?_) (fun hk => ?_)
  · have hk : k < a.cells.length := by simpa using hk
    refine sw_skip ?_
    refine sw_seq ?_
    refine sw_block ?_
    refine sw_seq ?_
    refine sa_start [] mixed ?_
    first
      | refine sa_take 0 rfl rfl (by kernel_rfl) .nil (pu_fieldAddr_ptr rfl rfl fo_40_1) ?_
      | refine sa_take 0 rfl rfl (by kernel_rfl) .nil (pu_fieldAddr_rp rfl rfl fo_40_1) ?_
      | refine sa_take 0 rfl rfl (by kernel_rfl) .nil (pu_fieldAddr_ref rfl rfl fo_40_1) ?_
    refine sa_take 1 rfl rfl (by kernel_rfl) .nil (pu_load_rp1 rfl rfl ag_38 rfl) ?_
    first
      | refine sa_take 2 rfl rfl (by kernel_rfl) .nil (pu_fieldAddr_ptr rfl rfl fo_40_1) ?_
      | refine sa_take 2 rfl rfl (by kernel_rfl) .nil (pu_fieldAddr_rp rfl rfl fo_40_1) ?_
      | refine sa_take 2 rfl rfl (by kernel_rfl) .nil (pu_fieldAddr_ref rfl rfl fo_40_1) ?_
    refine sa_take 3 rfl rfl (by kernel_rfl) .nil (pu_load_rp1 rfl rfl ag_38 rfl) ?_
    refine sa_take 4 rfl rfl (by kernel_rfl) .nil (pu_mv rfl rfl) ?_
    refine sa_take 5 rfl rfl (by kernel_rfl) .nil (pu_indexAddr rfl rfl rfl u_38 sz_9 (by omega) (idx_map hk) rfl) ?_
    refine sa_take 6 rfl rfl (by kernel_rfl) .nil (pu_load_rp1 rfl rfl ag_9 rfl) ?_
    refine sa_one 7 (by kernel_rfl) rfl ?_
    refine sl_callf rfl rfl cal_48 (has_ok b.cells a.cells[k] σX hb) ?_ ?_ ?_ (fun _ _ h => h.elim)
    · repeat constructor
    · repeat constructor
    rintro _ _ ⟨rfl, hσ⟩
    have hσ2 := hσ.symm
    subst hσ2
    refine sl_nil ⟨.nil, ?_⟩
    refine sa_take 8 rfl rfl (by kernel_rfl) .nil (pu_not rfl rfl) ?_
    refine sa_done (by kernel_rfl) ?_
    refine sw_cond rfl (fun h1 => ?_) (fun h1 => ?_)
    · refine sw_seq ?_
      refine sl_region ?_
      refine sl_as rfl rfl rfl ?_
      refine sl_nil ?_
      refine sw_ret ⟨rfl, _, _, res_one rfl rfl, ?_, ⟨congrArg (fun b => D.val (.bool b)) (by unfold leqP; rw [all_ff hk (by simpa using h1), Bool.and_false]), rfl⟩⟩
      repeat constructor
    refine sw_skip ?_
    refine sl_region ?_
    refine sl_mv rfl rfl rfl ?_
    first
      | refine sl_inc rfl rfl rfl rfl (by omega) ?_
      | refine sl_add rfl rfl rfl rfl (by constructor <;> omega) ?_
      | refine sl_bin rfl rfl rfl rfl rfl ?_
    refine sl_as rfl rfl rfl ?_
    refine sl_nil ?_
    refine ⟨_, by omega, _, _, ?_, ?_, k + 1, rfl, rfl, rfl, rfl, (by omega), (all_next hk hall (by simpa using h1))⟩
    · exact ⟨rfl, by repeat constructor⟩
    · repeat constructor
  have hk : k = a.cells.length := by have := of_decide_eq_false hk; simp only [List.length_map] at this; omega
  have ht : (a.cells.all fun x => decide (x ∈ b.cells)) = true := all_tt (by rw [hk, List.take_length] at hall; exact hall)
  refine sw_exit ?_
  refine sw_seq ?_
  refine sl_region ?_
  first
    | refine sl_fieldAddr_ptr rfl rfl rfl fo_40_0 ?_
    | refine sl_fieldAddr_rp rfl rfl rfl fo_40_0 ?_
    | refine sl_fieldAddr_ref rfl rfl rfl fo_40_0 ?_
  first
    | refine sl_load_rp1 rfl rfl rfl ag_4 rfl ?_
    | refine sl_load_blk1 rfl rfl rfl ag_4 (by repeat constructor) rfl ?_
  refine sl_not rfl rfl rfl ?_
  refine sl_mv rfl rfl rfl ?_
  refine sl_case_at 25 rfl (fun h1 => ?_) (fun h1 => ?_)
  · refine sl_guard_n rfl rfl rfl h1 ?_
    refine sl_guard_n rfl rfl rfl h1 ?_
    refine sl_pk_t rfl rfl rfl h1 rfl ?_
    refine sl_as rfl rfl rfl ?_
    refine sl_nil ?_
    refine sw_ret ⟨rfl, _, _, res_one rfl rfl, ?_, ⟨congrArg (fun b => D.val (.bool b)) (by unfold leqP; rw [ht, Bool.and_true]; rw [show a.null = false by simpa using h1]; rfl), rfl⟩⟩
    repeat constructor
  refine sl_guard_y rfl rfl rfl h1 ?_
  first
    | refine sl_fieldAddr_ptr rfl rfl rfl fo_40_0 ?_
    | refine sl_fieldAddr_rp rfl rfl rfl fo_40_0 ?_
    | refine sl_fieldAddr_ref rfl rfl rfl fo_40_0 ?_
  refine sl_guard_y rfl rfl rfl h1 ?_
  first
    | refine sl_load_rp1 rfl rfl rfl ag_4 rfl ?_
    | refine sl_load_blk1 rfl rfl rfl ag_4 (by repeat constructor) rfl ?_
  refine sl_pk_f rfl rfl rfl h1 rfl ?_
  refine sl_as rfl rfl rfl ?_
  refine sl_nil ?_
  refine sw_ret ⟨rfl, _, _, res_one rfl rfl, ?_, ⟨congrArg (fun b => D.val (.bool b)) (by unfold leqP; rw [ht, Bool.and_true]; rw [show a.null = true by simpa using h1]; rfl), rfl⟩⟩
  repeat constructor

theorem pempty_ok (p : Pt) (σ : List Chunk) : FSpec Try.prog 21 [.val (ptV p)] σ (fun d σ' => d = .val (.bool (emptyP p)) ∧ σ' = σ) := by
  refine spec_of_sw Try.func21 rfl ?_
  refine sw_seq ?_
  refine sl_region ?_
  refine sl_bx_imm rfl rfl rfl rfl rfl ?_
  refine sl_as rfl rfl rfl ?_
  refine sl_nil ?_
  refine sw_seq ?_
  refine sl_region ?_
  first
    | refine sl_fieldAddr_ptr rfl rfl rfl fo_40_0 ?_
    | refine sl_fieldAddr_rp rfl rfl rfl fo_40_0 ?_
    | refine sl_fieldAddr_ref rfl rfl rfl fo_40_0 ?_
  first
    | refine sl_load_rp1 rfl rfl rfl ag_4 rfl ?_
    | refine sl_load_blk1 rfl rfl rfl ag_4 (by repeat constructor) rfl ?_
  refine sl_not rfl rfl rfl ?_
  refine sl_mv rfl rfl rfl ?_
  refine sl_case_at 6 rfl (fun h1 => ?_) (fun h1 => ?_)
  · have e1 : p.null = false := by simpa using h1
    refine sl_guard_y rfl rfl rfl h1 ?_
    first
      | refine sl_fieldAddr_ptr rfl rfl rfl fo_40_1 ?_
      | refine sl_fieldAddr_rp rfl rfl rfl fo_40_1 ?_
      | refine sl_fieldAddr_ref rfl rfl rfl fo_40_1 ?_
    refine sl_guard_y rfl rfl rfl h1 ?_
    first
      | refine sl_load_rp1 rfl rfl rfl ag_38 rfl ?_
      | refine sl_load_blk1 rfl rfl rfl ag_38 (by repeat constructor) rfl ?_
    refine sl_guard_y rfl rfl rfl h1 ?_
    first
      | refine sl_len rfl rfl rfl ⟨_, u_38⟩ ?_
      | refine sl_len_sl rfl rfl rfl ⟨_, u_38⟩ ?_
      | refine sl_len_w _ rfl rfl rfl ⟨_, u_38⟩ ?_
    refine sl_guard_y rfl rfl rfl h1 ?_
    refine sl_bin rfl rfl rfl rfl rfl ?_
    refine sl_pk_t rfl rfl rfl h1 rfl ?_
    refine sl_as rfl rfl rfl ?_
    refine sl_nil ?_
    refine sw_ret ⟨rfl, _, _, res_one rfl rfl, ?_, ⟨congrArg (fun b => D.val (.bool b)) (by unfold emptyP; rw [e1]; cases p.cells <;> simp <;> omega), rfl⟩⟩
    repeat constructor
  have e1 : p.null = true := by simpa using h1
  refine sl_guard_n rfl rfl rfl h1 ?_
  refine sl_guard_n rfl rfl rfl h1 ?_
  refine sl_guard_n rfl rfl rfl h1 ?_
  refine sl_guard_n rfl rfl rfl h1 ?_
  refine sl_pk_f rfl rfl rfl h1 rfl ?_
  refine sl_as rfl rfl rfl ?_
  refine sl_nil ?_
  refine sw_ret ⟨rfl, _, _, res_one rfl rfl, ?_, ⟨congrArg (fun b => D.val (.bool b)) (by unfold emptyP; rw [e1]; rfl), rfl⟩⟩
  repeat constructor
theorem rpempty_ok (p : Pt) (σ : List Chunk) : FSpec Try.prog 22 [.val (ptV p)] σ (fun d σ' => d = .val (.bool (emptyP p)) ∧ σ' = σ) := by
  refine spec_of_sw Try.func22 rfl ?_
  refine sw_seq ?_
  refine sl_region ?_
  refine sl_bx_imm rfl rfl rfl rfl rfl ?_
  refine sl_as rfl rfl rfl ?_
  refine sl_nil ?_
  refine sw_seq ?_
  refine sl_region ?_
  first
    | refine sl_fieldAddr_ptr rfl rfl rfl fo_40_0 ?_
    | refine sl_fieldAddr_rp rfl rfl rfl fo_40_0 ?_
    | refine sl_fieldAddr_ref rfl rfl rfl fo_40_0 ?_
  first
    | refine sl_load_rp1 rfl rfl rfl ag_4 rfl ?_
    | refine sl_load_blk1 rfl rfl rfl ag_4 (by repeat constructor) rfl ?_
  refine sl_not rfl rfl rfl ?_
  refine sl_mv rfl rfl rfl ?_
  refine sl_case_at 6 rfl (fun h1 => ?_) (fun h1 => ?_)
  · have e1 : p.null = false := by simpa using h1
    refine sl_guard_y rfl rfl rfl h1 ?_
    first
      | refine sl_fieldAddr_ptr rfl rfl rfl fo_40_1 ?_
      | refine sl_fieldAddr_rp rfl rfl rfl fo_40_1 ?_
      | refine sl_fieldAddr_ref rfl rfl rfl fo_40_1 ?_
    refine sl_guard_y rfl rfl rfl h1 ?_
    first
      | refine sl_load_rp1 rfl rfl rfl ag_38 rfl ?_
      | refine sl_load_blk1 rfl rfl rfl ag_38 (by repeat constructor) rfl ?_
    refine sl_guard_y rfl rfl rfl h1 ?_
    first
      | refine sl_len rfl rfl rfl ⟨_, u_38⟩ ?_
      | refine sl_len_sl rfl rfl rfl ⟨_, u_38⟩ ?_
      | refine sl_len_w _ rfl rfl rfl ⟨_, u_38⟩ ?_
    refine sl_guard_y rfl rfl rfl h1 ?_
    refine sl_bin rfl rfl rfl rfl rfl ?_
    refine sl_pk_t rfl rfl rfl h1 rfl ?_
    refine sl_as rfl rfl rfl ?_
    refine sl_nil ?_
    refine sw_ret ⟨rfl, _, _, res_one rfl rfl, ?_, ⟨congrArg (fun b => D.val (.bool b)) (by unfold emptyP; rw [e1]; cases p.cells <;> simp <;> omega), rfl⟩⟩
    repeat constructor
  have e1 : p.null = true := by simpa using h1
  refine sl_guard_n rfl rfl rfl h1 ?_
  refine sl_guard_n rfl rfl rfl h1 ?_
  refine sl_guard_n rfl rfl rfl h1 ?_
  refine sl_guard_n rfl rfl rfl h1 ?_
  refine sl_pk_f rfl rfl rfl h1 rfl ?_
  refine sl_as rfl rfl rfl ?_
  refine sl_nil ?_
  refine sw_ret ⟨rfl, _, _, res_one rfl rfl, ?_, ⟨congrArg (fun b => D.val (.bool b)) (by unfold emptyP; rw [e1]; rfl), rfl⟩⟩
  repeat constructor

theorem eqPt {a b : Pt} : a = b ↔ a.null = b.null ∧ a.cells = b.cells := by cases a; cases b; simp
theorem hpt_ok (a b : Pt) (σ : List Chunk) (ha : a.cells.length ≤ 1000000) : FSpec Try.prog 16 [.val (ptV a), .val (ptV b)] σ (fun d σ' => d = .val (.bool (decide (a = b))) ∧ σ' = σ) := by
  refine spec_of_sw Try.func16 rfl ?_
  refine sw_seq ?_
  refine sl_region ?_
  refine sl_bx_imm rfl rfl rfl rfl rfl ?_
  refine sl_bx_imm rfl rfl rfl rfl rfl ?_
  refine sl_as rfl rfl rfl ?_
  refine sl_nil ?_
  refine sw_seq ?_
  refine sl_region ?_
  first
    | refine sl_fieldAddr_ptr rfl rfl rfl fo_40_0 ?_
    | refine sl_fieldAddr_rp rfl rfl rfl fo_40_0 ?_
    | refine sl_fieldAddr_ref rfl rfl rfl fo_40_0 ?_
  first
    | refine sl_load_rp1 rfl rfl rfl ag_4 rfl ?_
    | refine sl_load_blk1 rfl rfl rfl ag_4 (by repeat constructor) rfl ?_
  first
    | refine sl_fieldAddr_ptr rfl rfl rfl fo_40_0 ?_
    | refine sl_fieldAddr_rp rfl rfl rfl fo_40_0 ?_
    | refine sl_fieldAddr_ref rfl rfl rfl fo_40_0 ?_
  first
    | refine sl_load_rp1 rfl rfl rfl ag_4 rfl ?_
    | refine sl_load_blk1 rfl rfl rfl ag_4 (by repeat constructor) rfl ?_
  refine sl_bool_eq rfl rfl rfl rfl u_4 ?_
  refine sl_mv rfl rfl rfl ?_
  refine sl_case_at 10 rfl (fun h1 => ?_) (fun h1 => ?_)
  · have e1 : a.null = b.null := by simpa using h1
    refine sl_guard_y rfl rfl rfl h1 ?_
    first
      | refine sl_fieldAddr_ptr rfl rfl rfl fo_40_1 ?_
      | refine sl_fieldAddr_rp rfl rfl rfl fo_40_1 ?_
      | refine sl_fieldAddr_ref rfl rfl rfl fo_40_1 ?_
    refine sl_guard_y rfl rfl rfl h1 ?_
    first
      | refine sl_load_rp1 rfl rfl rfl ag_38 rfl ?_
      | refine sl_load_blk1 rfl rfl rfl ag_38 (by repeat constructor) rfl ?_
    refine sl_guard_y rfl rfl rfl h1 ?_
    first
      | refine sl_fieldAddr_ptr rfl rfl rfl fo_40_1 ?_
      | refine sl_fieldAddr_rp rfl rfl rfl fo_40_1 ?_
      | refine sl_fieldAddr_ref rfl rfl rfl fo_40_1 ?_
    refine sl_guard_y rfl rfl rfl h1 ?_
    first
      | refine sl_load_rp1 rfl rfl rfl ag_38 rfl ?_
      | refine sl_load_blk1 rfl rfl rfl ag_38 (by repeat constructor) rfl ?_
    refine sl_guard_y rfl rfl rfl h1 ?_
    refine sl_callf rfl rfl cal_43 (strs_ok a.cells b.cells σ ha) ?_ ?_ ?_ (fun _ _ h => h.elim)
    · repeat constructor
    · repeat constructor
    rintro _ _ ⟨rfl, hσ⟩
    have hσ2 := hσ.symm
    subst hσ2
    refine sl_pk_t rfl rfl rfl h1 rfl ?_
    refine sl_as rfl rfl rfl ?_
    refine sl_nil ?_
    refine sw_ret ⟨rfl, _, _, res_one rfl rfl, ?_, ⟨congrArg (fun b => D.val (.bool b)) (decide_eq_decide.mpr ⟨fun h => eqPt.mpr ⟨e1, h⟩, fun h => (eqPt.mp h).2⟩), rfl⟩⟩
    repeat constructor
  refine sl_guard_n rfl rfl rfl h1 ?_
  refine sl_guard_n rfl rfl rfl h1 ?_
  refine sl_guard_n rfl rfl rfl h1 ?_
  refine sl_guard_n rfl rfl rfl h1 ?_
  refine sl_guard_n rfl rfl rfl h1 ?_
  refine sl_pk_f rfl rfl rfl h1 rfl ?_
  refine sl_as rfl rfl rfl ?_
  refine sl_nil ?_
  refine sw_ret ⟨rfl, _, _, res_one rfl rfl, ?_, ⟨isnt (fun h => by rw [h] at h1; simp at h1), rfl⟩⟩
  repeat constructor

theorem ponly_ok (p : Pt) (σ : List Chunk) : FSpec Try.prog 24 [.val (ptV p)] σ (fun d σ' => d = .val (ptV ⟨p.null, []⟩) ∧ σ' = σ) := by
  refine spec_of_sw Try.func24 rfl ?_
  refine sw_seq ?_
  refine sl_region ?_
  refine sl_bx_imm rfl rfl rfl rfl rfl ?_
  refine sl_alloc rfl rfl zd_40 (fun b2 => ?_)
  refine sl_nil ?_
  refine sw_seq ?_
  refine sl_region ?_
  first
    | refine sl_fieldAddr_ptr rfl rfl rfl fo_40_0 ?_
    | refine sl_fieldAddr_rp rfl rfl rfl fo_40_0 ?_
    | refine sl_fieldAddr_ref rfl rfl rfl fo_40_0 ?_
  first
    | refine sl_load_rp1 rfl rfl rfl ag_4 rfl ?_
    | refine sl_load_blk1 rfl rfl rfl ag_4 (by repeat constructor) rfl ?_
  refine sl_bd rfl rfl (.cons rfl .nil) bi_40 zd_40 rfl ?_
  refine sl_stp rfl rfl rfl rfl sz_40 rfl rfl rfl (by repeat constructor) (Nat.le_of_ble_eq_true rfl) ?_
  refine sl_nil ?_
  refine sw_ret ⟨rfl, _, _, ResD.weak (res_celln rfl rfl ag_40 sz_40 (by repeat constructor) (Nat.le_of_ble_eq_true rfl)) (Weak.toV rfl ), ?_, ⟨rfl, rfl⟩⟩
  repeat constructor
theorem pnull_ok (σ : List Chunk) : FSpec Try.prog 29 [] σ (fun d σ' => d = .val (ptV ⟨true, []⟩) ∧ σ' = σ) := by
  refine spec_of_sw Try.func29 rfl ?_
  refine sw_seq ?_
  refine sl_region ?_
  refine sl_alloc rfl rfl zd_40 (fun b0 => ?_)
  refine sl_nil ?_
  refine sw_seq ?_
  refine sl_region ?_
  refine sl_bd rfl rfl (.cons rfl .nil) bi_40 zd_40 rfl ?_
  refine sl_stp rfl rfl rfl rfl sz_40 rfl rfl rfl (by repeat constructor) (Nat.le_of_ble_eq_true rfl) ?_
  refine sl_nil ?_
  refine sw_ret ⟨rfl, _, _, ResD.weak (res_celln rfl rfl ag_40 sz_40 (by repeat constructor) (Nat.le_of_ble_eq_true rfl)) (Weak.toV rfl ), ?_, ⟨rfl, rfl⟩⟩
  repeat constructor

end Go.Proofs.Ytipacoopapjdpaa

/- Walks: printed by a program of this session out of its script PtsC. -/
namespace Go.Proofs.Ytipacoopapjdpaa
set_option linter.unusedVariables false
set_option linter.unusedSimpArgs false
set_option maxRecDepth 4000
set_option maxHeartbeats 4000000
open Go Go.RowKit SL


theorem values_ok (l : List Txt) (σ : List Chunk) : FSpec Try.prog 63 [.val (.list (l.map strV))] σ (fun d σ' => d = .func 76 [.rp [.list (l.map strV)]] ∧ σ' = σ) := by
  refine spec_of_sw Try.func63 rfl ?_
  refine sw_seq ?_
  refine sl_region ?_
  refine sl_bx_imm rfl rfl rfl rfl rfl ?_
  refine sl_as rfl rfl rfl ?_
  refine sl_nil ?_
  refine sw_seq ?_
  refine sl_region ?_
  refine sl_mf rfl rfl (.cons rfl .nil) ?_
  refine sl_as rfl rfl rfl ?_
  refine sl_nil ?_
  refine sw_ret ⟨rfl, _, _, res_one rfl rfl, ?_, ⟨rfl, rfl⟩⟩
  repeat constructor

theorem sorted_ok (l : List Txt) (σ : List Chunk) (hl : l.length ≤ 1000000) : FSpec Try.prog 62 [.func 76 [.rp [.list (l.map strV)]]] σ (fun d σ' => ∃ W : WL 1 (sortL l).length, d = W.d ∧ σ' = W.k (srows (sortL l)) :: σ) := by
  refine spec_of_sw Try.func62 rfl ?_
  refine sw_seq ?_
  refine sl_region ?_
  refine sl_as rfl rfl rfl ?_
  refine sl_nil ?_
  refine sw_seq ?_
  refine sl_region ?_
  refine sl_mv rfl rfl rfl ?_
  refine sl_callf rfl rfl cal_74 (collect_ok l σ hl) ?_ ?_ ?_ (fun _ _ h => h.elim)
  · repeat constructor
  · repeat constructor
  rintro _ _ ⟨W, rfl, rfl⟩
  refine sl_as rfl rfl rfl ?_
  refine sl_nil ?_
  refine sw_seq ?_
  refine sl_region ?_
  refine sl_mv rfl rfl rfl ?_
  refine sl_callf rfl rfl cal_75 (sort_ok l W σ hl) ?_ ?_ ?_ (fun _ _ h => h.elim)
  · repeat constructor
  · repeat constructor
  rintro _ _ ⟨rfl, W2, hW, rfl⟩
  rw [hW]
  refine sl_nil ?_
  refine sw_seq ?_
  refine sl_region ?_
  refine sl_mv rfl rfl rfl ?_
  refine sl_as rfl rfl rfl ?_
  refine sl_nil ?_
  refine sw_ret ⟨rfl, _, _, res_one rfl rfl, ?_, ⟨W2, rfl, rfl⟩⟩
  repeat constructor

theorem normL_def (l : List Txt) : compactL (sortL l) = normL l := rfl

abbrev zeroP : List D := [.val (.bool false), .fix []]

/-- pts.plain: the one form. -/
theorem pplain_ok (p : Pt) (σ : List Chunk) (hp : p.cells.length ≤ 1000000) : FSpec Try.prog 44 [.val (ptV p)] σ (fun d σ' => d = .val (ptV (nmP p)) ∧ σ' = σ) := by
  refine spec_of_sw Try.func44 rfl ?_
  refine sw_seq ?_
  refine sl_region ?_
  refine sl_bx_imm rfl rfl rfl rfl rfl ?_
  refine sl_alloc rfl rfl zd_40 (fun b2 => ?_)
  refine sl_nil ?_
  refine sw_seq ?_
  refine sl_region ?_
  first
    | refine sl_fieldAddr_ptr rfl rfl rfl fo_40_1 ?_
    | refine sl_fieldAddr_rp rfl rfl rfl fo_40_1 ?_
    | refine sl_fieldAddr_ref rfl rfl rfl fo_40_1 ?_
  first
    | refine sl_load_rp1 rfl rfl rfl ag_38 rfl ?_
    | refine sl_load_blk1 rfl rfl rfl ag_38 (by repeat constructor) rfl ?_
  refine sl_callf rfl rfl cal_63 (values_ok p.cells (.blk b2 zeroP :: σ)) ?_ ?_ ?_ (fun _ _ h => h.elim)
  · repeat constructor
  · repeat constructor
  rintro _ _ ⟨rfl, rfl⟩
  refine sl_callf rfl rfl cal_62 (sorted_ok p.cells (.blk b2 zeroP :: σ) hp) ?_ ?_ ?_ (fun _ _ h => h.elim)
  · repeat constructor
  · repeat constructor
  rintro _ _ ⟨W, rfl, rfl⟩
  refine sl_as rfl rfl rfl ?_
  refine sl_nil ?_
  refine sw_seq ?_
  refine sa_start [] mixed ?_
  first
    | refine sa_take 0 rfl rfl (by kernel_rfl) .nil (pu_fieldAddr_ptr rfl rfl fo_40_0) ?_
    | refine sa_take 0 rfl rfl (by kernel_rfl) .nil (pu_fieldAddr_rp rfl rfl fo_40_0) ?_
    | refine sa_take 0 rfl rfl (by kernel_rfl) .nil (pu_fieldAddr_ref rfl rfl fo_40_0) ?_
  refine sa_take 1 rfl rfl (by kernel_rfl) .nil (pu_load_rp1 rfl rfl ag_4 rfl) ?_
  refine sa_take 2 rfl rfl (by kernel_rfl) .nil (pu_mv rfl rfl) ?_
  refine sa_one 3 (by kernel_rfl) rfl ?_
  refine sl_callf rfl rfl cal_64 (compactv_ok (sortL p.cells) W (.blk b2 zeroP :: σ) (by rw [sortL_len]; exact hp)) ?_ ?_ ?_ (fun _ _ h => h.elim)
  · repeat constructor
  · repeat constructor
  rintro _ _ ⟨rfl, rfl⟩
  refine sl_nil ⟨.nil, ?_⟩
  refine sa_take 4 rfl rfl (by kernel_rfl) .nil (pu_bd rfl (.cons rfl (.cons rfl .nil)) bi_40 zd_40 rfl) ?_
  refine sa_one 5 (by kernel_rfl) rfl ?_
  refine sl_stp rfl rfl rfl rfl sz_40 rfl rfl rfl (by repeat constructor) (Nat.le_of_ble_eq_true rfl) ?_
  refine sl_nil ⟨.nil, ?_⟩
  refine sa_done (by kernel_rfl) ?_
  refine sw_ret ⟨rfl, _, _, ResD.weak (res_celln rfl rfl ag_40 sz_40 (by repeat constructor) (Nat.le_of_ble_eq_true rfl)) (Weak.toV rfl ), ?_, ⟨rfl, rfl⟩⟩
  repeat constructor

theorem pto_ok (l : List Txt) (σ : List Chunk) (hl : l.length ≤ 1000000) : FSpec Try.prog 27 [.val (.list (l.map strV))] σ (fun d σ' => d = .val (ptV ⟨false, normL l⟩) ∧ σ' = σ) := by
  refine spec_of_sw Try.func27 rfl ?_
  refine sw_seq ?_
  refine sl_region ?_
  refine sl_alloc rfl rfl zd_40 (fun b2 => ?_)
  refine sl_nil ?_
  refine sw_seq ?_
  refine sl_region ?_
  refine sl_mv rfl rfl rfl ?_
  refine sl_bd rfl rfl (.cons rfl .nil) bi_40 zd_40 rfl ?_
  refine sl_callf rfl rfl cal_44 (pplain_ok ⟨false, l⟩ (.blk b2 zeroP :: σ) hl) ?_ ?_ ?_ (fun _ _ h => h.elim)
  · repeat constructor
  · repeat constructor
  rintro _ _ ⟨rfl, rfl⟩
  refine sl_stp rfl rfl rfl rfl sz_40 rfl rfl rfl (by repeat constructor) (Nat.le_of_ble_eq_true rfl) ?_
  refine sl_nil ?_
  refine sw_ret ⟨rfl, _, _, ResD.weak (res_celln rfl rfl ag_40 sz_40 (by repeat constructor) (Nat.le_of_ble_eq_true rfl)) (Weak.toV rfl ), ?_, ⟨rfl, rfl⟩⟩
  repeat constructor
theorem pany_ok (l : List Txt) (σ : List Chunk) (hl : l.length ≤ 1000000) : FSpec Try.prog 28 [.val (.list (l.map strV))] σ (fun d σ' => d = .val (ptV ⟨true, normL l⟩) ∧ σ' = σ) := by
  refine spec_of_sw Try.func28 rfl ?_
  refine sw_seq ?_
  refine sl_region ?_
  refine sl_alloc rfl rfl zd_40 (fun b2 => ?_)
  refine sl_nil ?_
  refine sw_seq ?_
  refine sl_region ?_
  refine sl_mv rfl rfl rfl ?_
  refine sl_bd rfl rfl (.cons rfl (.cons rfl .nil)) bi_40 zd_40 rfl ?_
  refine sl_callf rfl rfl cal_44 (pplain_ok ⟨true, l⟩ (.blk b2 zeroP :: σ) hl) ?_ ?_ ?_ (fun _ _ h => h.elim)
  · repeat constructor
  · repeat constructor
  rintro _ _ ⟨rfl, rfl⟩
  refine sl_stp rfl rfl rfl rfl sz_40 rfl rfl rfl (by repeat constructor) (Nat.le_of_ble_eq_true rfl) ?_
  refine sl_nil ?_
  refine sw_ret ⟨rfl, _, _, ResD.weak (res_celln rfl rfl ag_40 sz_40 (by repeat constructor) (Nat.le_of_ble_eq_true rfl)) (Weak.toV rfl ), ?_, ⟨rfl, rfl⟩⟩
  repeat constructor
theorem pnonull_ok (p : Pt) (σ : List Chunk) (hp : p.cells.length ≤ 1000000) : FSpec Try.prog 23 [.val (ptV p)] σ (fun d σ' => d = .val (ptV ⟨false, normL p.cells⟩) ∧ σ' = σ) := by
  refine spec_of_sw Try.func23 rfl ?_
  refine sw_seq ?_
  refine sl_region ?_
  refine sl_bx_imm rfl rfl rfl rfl rfl ?_
  refine sl_alloc rfl rfl zd_40 (fun b2 => ?_)
  refine sl_nil ?_
  refine sw_seq ?_
  refine sl_region ?_
  first
    | refine sl_fieldAddr_ptr rfl rfl rfl fo_40_1 ?_
    | refine sl_fieldAddr_rp rfl rfl rfl fo_40_1 ?_
    | refine sl_fieldAddr_ref rfl rfl rfl fo_40_1 ?_
  first
    | refine sl_load_rp1 rfl rfl rfl ag_38 rfl ?_
    | refine sl_load_blk1 rfl rfl rfl ag_38 (by repeat constructor) rfl ?_
  refine sl_callf rfl rfl cal_27 (pto_ok p.cells (.blk b2 zeroP :: σ) hp) ?_ ?_ ?_ (fun _ _ h => h.elim)
  · repeat constructor
  · repeat constructor
  rintro _ _ ⟨rfl, rfl⟩
  refine sl_stp rfl rfl rfl rfl sz_40 rfl rfl rfl (by repeat constructor) (Nat.le_of_ble_eq_true rfl) ?_
  refine sl_nil ?_
  refine sw_ret ⟨rfl, _, _, ResD.weak (res_celln rfl rfl ag_40 sz_40 (by repeat constructor) (Nat.le_of_ble_eq_true rfl)) (Weak.toV rfl ), ?_, ⟨rfl, rfl⟩⟩
  repeat constructor

end Go.Proofs.Ytipacoopapjdpaa

/- Walks: printed by a program of this session out of its script PtsD. -/
namespace Go.Proofs.Ytipacoopapjdpaa
set_option linter.unusedVariables false
set_option linter.unusedSimpArgs false
set_option maxRecDepth 4000
set_option maxHeartbeats 4000000
open Go Go.RowKit SL


theorem cells_len {l : List Pt} {c : Nat} (h : ∀ p ∈ l, p.cells.length ≤ c) : ∀ k, (allCells (l.take k)).length ≤ k * c := by
  intro k
  induction k with
  | zero => simp [allCells]
  | succ k ih =>
    by_cases hk : k < l.length
    · rw [allCells_snoc hk, List.length_append, Nat.add_mul]
      have := h _ (List.getElem_mem hk); omega
    · rw [List.take_of_length_le (by omega)] at ih ⊢
      rw [Nat.add_mul]; omega

/-- pts.Join. -/
theorem pjoin_ok (l : List Pt) (σ : List Chunk) (hl : l.length ≤ 1000) (hc : ∀ p ∈ l, p.cells.length ≤ 1000) : FSpec Try.prog 17 [.val (.list (l.map ptV))] σ (fun d σ' => d = .val (ptV (joinP l)) ∧ σ' = σ) := by
  have hcl := cells_len hc
  refine spec_of_sw Try.func17 rfl ?_
  refine sw_seq ?_
  refine sl_region ?_
  refine sl_alloc rfl rfl zd_40 (fun b2 => ?_)
  refine sl_nil ?_
  refine sw_seq ?_
  refine sl_region ?_
  refine sl_alloc rfl rfl zd_40 (fun b3 => ?_)
  refine sl_nil ?_
  refine sw_seq ?_
  refine sw_seq ?_
  refine sl_region ?_
  refine sl_mv rfl rfl rfl ?_
  first
    | refine sl_len rfl rfl rfl ⟨_, u_37⟩ ?_
    | refine sl_len_sl rfl rfl rfl ⟨_, u_37⟩ ?_
    | refine sl_len_w _ rfl rfl rfl ⟨_, u_37⟩ ?_
  refine sl_mv rfl rfl rfl ?_
  refine sl_nil ?_
  refine sw_block ?_
  refine sw_own_blk (i := 1) (sz := 1) rfl (fun e0 => ?_)
  refine sw_loopw (fun nX sX δX σX => ∃ (k : Nat) (v : Value) (nl : Bool), (l.length - k) = nX ∧ sX = ⟨28, (.cons 2 (.ptr b2 0) (.cons 3 (.ptr b3 0) (.cons 6 (.val (.list (l.map ptV))) (.cons 7 (.val (.int .i64 (l.map ptV).length)) (.cons 8 (.val (.int .i64 (k : Int))) .nil)))))⟩ ∧ δX = [] ∧ σX = .blk b3 [.val (.bool nl), .own v ((allCells (l.take k)).map strV)] :: .spare v 1 :: .blk b2 zeroP :: σ ∧ (k ≤ l.length) ∧ (nl = (l.take k).any (·.null))) ?_ ?_
  · refine ⟨_, _, _, ?_, ?_, 0, e0, false, rfl, rfl, rfl, rfl, (Nat.zero_le _), (rfl)⟩
    · exact ⟨rfl, by repeat constructor⟩
    · repeat constructor
  rintro nX sX δX σX ⟨k, v, nl, rfl, rfl, rfl, rfl, hk0, hnl⟩
  refine sw_seq ?_
  refine sl_region ?_
  refine sl_bin rfl rfl rfl rfl rfl ?_
  refine sl_nil ?_
  refine sw_seq ?_
  refine sw_cond rfl (fun hk => ?_) (fun hk => ?_)
  · have hk : k < l.length := by simpa using hk
    have hck := hcl k
    have hce := hc _ (List.getElem_mem hk)
    refine sw_skip ?_
    refine sw_seq ?_
    refine sw_block ?_
    refine sw_seq ?_
    refine sl_region ?_
    refine sl_indexAddr' rfl rfl rfl rfl u_37 sz_40 (by omega) (idx_map hk) rfl ?_
    first
      | refine sl_load_rpn rfl rfl rfl ag_40 sz_40 (Nat.le_of_ble_eq_true rfl) ?_
      | refine sl_load_blkn rfl rfl rfl ag_40 sz_40 (by repeat constructor) (Nat.le_of_ble_eq_true rfl) ?_
      | refine sl_load_ref rfl rfl rfl ag_40 sz_40 (Nat.le_of_ble_eq_true rfl) ?_
    refine sl_alloc rfl rfl zd_40 (fun b5 => ?_)
    refine sl_stp rfl rfl rfl rfl sz_40 rfl rfl rfl (by repeat constructor) (Nat.le_of_ble_eq_true rfl) ?_
    refine sl_nil ?_
    refine sw_seq ?_
    refine sl_region ?_
    first
      | refine sl_fieldAddr_ptr rfl rfl rfl fo_40_0 ?_
      | refine sl_fieldAddr_rp rfl rfl rfl fo_40_0 ?_
      | refine sl_fieldAddr_ref rfl rfl rfl fo_40_0 ?_
    first
      | refine sl_load_rp1 rfl rfl rfl ag_4 rfl ?_
      | refine sl_load_blk1 rfl rfl rfl ag_4 (by repeat constructor) rfl ?_
    refine sl_mv rfl rfl rfl ?_
    refine sl_case_at 14 rfl (fun h1 => ?_) (fun h1 => ?_)
    · have e1 : nl = true := h1
      refine sl_guard_n rfl rfl rfl h1 ?_
      refine sl_guard_n rfl rfl rfl h1 ?_
      refine sl_pk_t rfl rfl rfl h1 rfl ?_
      first
        | refine sl_fieldAddr_ptr rfl rfl rfl fo_40_0 ?_
        | refine sl_fieldAddr_rp rfl rfl rfl fo_40_0 ?_
        | refine sl_fieldAddr_ref rfl rfl rfl fo_40_0 ?_
      refine sl_stp rfl rfl rfl rfl sz_4 rfl rfl rfl (by repeat constructor) (Nat.le_of_ble_eq_true rfl) ?_
      refine sl_nil ?_
      refine sl_region ?_
      first
        | refine sl_fieldAddr_ptr rfl rfl rfl fo_40_1 ?_
        | refine sl_fieldAddr_rp rfl rfl rfl fo_40_1 ?_
        | refine sl_fieldAddr_ref rfl rfl rfl fo_40_1 ?_
      first
        | refine sl_load_rp1 rfl rfl rfl ag_38 rfl ?_
        | refine sl_load_blk1 rfl rfl rfl ag_38 (by repeat constructor) rfl ?_
      first
        | refine sl_fieldAddr_ptr rfl rfl rfl fo_40_1 ?_
        | refine sl_fieldAddr_rp rfl rfl rfl fo_40_1 ?_
        | refine sl_fieldAddr_ref rfl rfl rfl fo_40_1 ?_
      first
        | refine sl_load_rp1 rfl rfl rfl ag_38 rfl ?_
        | refine sl_load_blk1 rfl rfl rfl ag_38 (by repeat constructor) rfl ?_
      refine sl_appp rfl rfl rfl rfl u_38 ⟨_, u_38, rfl⟩ el_9 (by repeat constructor) (by repeat constructor) (by simp only [List.length_map]; omega) ((by rw [← List.map_append, ← allCells_snoc hk] : _ = (allCells (l.take (k + 1))).map strV)) (by repeat constructor) (fun v23 => ?_)
      first
        | refine sl_fieldAddr_ptr rfl rfl rfl fo_40_1 ?_
        | refine sl_fieldAddr_rp rfl rfl rfl fo_40_1 ?_
        | refine sl_fieldAddr_ref rfl rfl rfl fo_40_1 ?_
      refine sl_stp rfl rfl rfl rfl sz_38 rfl rfl rfl (by repeat constructor) (Nat.le_of_ble_eq_true rfl) ?_
      refine sl_nil ?_
      refine sl_region ?_
      first
        | refine sl_inc rfl rfl rfl rfl (by omega) ?_
        | refine sl_add rfl rfl rfl rfl (by constructor <;> omega) ?_
        | refine sl_bin rfl rfl rfl rfl rfl ?_
      refine sl_mv rfl rfl rfl ?_
      refine sl_nil ?_
      refine ⟨_, by omega, _, _, ?_, ?_, k + 1, v23, true, rfl, rfl, rfl, rfl, (by omega), (by rw [any_snoc hk, ← hnl, e1]; rfl)⟩
      · exact ⟨rfl, by repeat constructor⟩
      · repeat constructor
    have e1 : nl = false := h1
    refine sl_guard_y rfl rfl rfl h1 ?_
    first
      | refine sl_fieldAddr_ptr rfl rfl rfl fo_40_0 ?_
      | refine sl_fieldAddr_rp rfl rfl rfl fo_40_0 ?_
      | refine sl_fieldAddr_ref rfl rfl rfl fo_40_0 ?_
    refine sl_guard_y rfl rfl rfl h1 ?_
    first
      | refine sl_load_rp1 rfl rfl rfl ag_4 rfl ?_
      | refine sl_load_blk1 rfl rfl rfl ag_4 (by repeat constructor) rfl ?_
    refine sl_pk_f rfl rfl rfl h1 rfl ?_
    first
      | refine sl_fieldAddr_ptr rfl rfl rfl fo_40_0 ?_
      | refine sl_fieldAddr_rp rfl rfl rfl fo_40_0 ?_
      | refine sl_fieldAddr_ref rfl rfl rfl fo_40_0 ?_
    refine sl_stp rfl rfl rfl rfl sz_4 rfl rfl rfl (by repeat constructor) (Nat.le_of_ble_eq_true rfl) ?_
    refine sl_nil ?_
    refine sl_region ?_
    first
      | refine sl_fieldAddr_ptr rfl rfl rfl fo_40_1 ?_
      | refine sl_fieldAddr_rp rfl rfl rfl fo_40_1 ?_
      | refine sl_fieldAddr_ref rfl rfl rfl fo_40_1 ?_
    first
      | refine sl_load_rp1 rfl rfl rfl ag_38 rfl ?_
      | refine sl_load_blk1 rfl rfl rfl ag_38 (by repeat constructor) rfl ?_
    first
      | refine sl_fieldAddr_ptr rfl rfl rfl fo_40_1 ?_
      | refine sl_fieldAddr_rp rfl rfl rfl fo_40_1 ?_
      | refine sl_fieldAddr_ref rfl rfl rfl fo_40_1 ?_
    first
      | refine sl_load_rp1 rfl rfl rfl ag_38 rfl ?_
      | refine sl_load_blk1 rfl rfl rfl ag_38 (by repeat constructor) rfl ?_
    refine sl_appp rfl rfl rfl rfl u_38 ⟨_, u_38, rfl⟩ el_9 (by repeat constructor) (by repeat constructor) (by simp only [List.length_map]; omega) ((by rw [← List.map_append, ← allCells_snoc hk] : _ = (allCells (l.take (k + 1))).map strV)) (by repeat constructor) (fun v23 => ?_)
    first
      | refine sl_fieldAddr_ptr rfl rfl rfl fo_40_1 ?_
      | refine sl_fieldAddr_rp rfl rfl rfl fo_40_1 ?_
      | refine sl_fieldAddr_ref rfl rfl rfl fo_40_1 ?_
    refine sl_stp rfl rfl rfl rfl sz_38 rfl rfl rfl (by repeat constructor) (Nat.le_of_ble_eq_true rfl) ?_
    refine sl_nil ?_
    refine sl_region ?_
    first
      | refine sl_inc rfl rfl rfl rfl (by omega) ?_
      | refine sl_add rfl rfl rfl rfl (by constructor <;> omega) ?_
      | refine sl_bin rfl rfl rfl rfl rfl ?_
    refine sl_mv rfl rfl rfl ?_
    refine sl_nil ?_
    refine ⟨_, by omega, _, _, ?_, ?_, k + 1, v23, (l[k]).null, rfl, rfl, rfl, rfl, (by omega), (by rw [any_snoc hk, ← hnl, e1]; rfl)⟩
    · exact ⟨rfl, by repeat constructor⟩
    · repeat constructor
  have hk : k = l.length := by have := of_decide_eq_false hk; simp only [List.length_map] at this; omega
  refine sw_exit ?_
  refine sw_seq ?_
  refine sl_region ?_
  first
    | refine sl_load_rpn rfl rfl rfl ag_40 sz_40 (Nat.le_of_ble_eq_true rfl) ?_
    | refine sl_load_blkn rfl rfl rfl ag_40 sz_40 (by repeat constructor) (Nat.le_of_ble_eq_true rfl) ?_
    | refine sl_load_ref rfl rfl rfl ag_40 sz_40 (Nat.le_of_ble_eq_true rfl) ?_
  refine sl_callf rfl rfl cal_44 (pplain_ok ⟨nl, allCells (l.take k)⟩ (.blk b3 [.val (.bool nl), .own v ((allCells (l.take k)).map strV)] :: .spare v 1 :: .blk b2 zeroP :: σ) (by have := hcl k; show (allCells (l.take k)).length ≤ _; omega)) ?_ ?_ ?_ (fun _ _ h => h.elim)
  · repeat constructor
  · repeat constructor
  rintro _ _ ⟨rfl, rfl⟩
  refine sl_stp rfl rfl rfl rfl sz_40 rfl rfl rfl (by repeat constructor) (Nat.le_of_ble_eq_true rfl) ?_
  refine sl_nil ?_
  refine sw_ret ⟨rfl, _, _, ResD.weak (res_celln rfl rfl ag_40 sz_40 (by repeat constructor) (Nat.le_of_ble_eq_true rfl)) (Weak.toV rfl ), ?_, by rw [hnl, hk, List.take_length]; exact ⟨rfl, rfl⟩⟩
  repeat constructor

theorem insL_take {l : List Txt} {s : Txt} {k : Nat} (hk : k ≤ l.length) (h1 : ∀ j (h : j < l.length), j < k → l[j] < s) (h2 : ∀ h : k < l.length, ¬ l[k] < s) (h3 : l[k]? ≠ some s) : l.take k ++ s :: l.drop k = insL l s := by
  rw [insL_at hk h1 h2, if_neg h3]
theorem insL_same {l : List Txt} {s : Txt} {k : Nat} (hk : k < l.length) (h1 : ∀ j (h : j < l.length), j < k → l[j] < s) (h2 : ¬ l[k] < s) (e : l[k] = s) : l = insL l s := by
  rw [insL_at (Nat.le_of_lt hk) h1 (fun _ => h2), if_pos (by rw [List.getElem?_eq_getElem hk, e])]

theorem lt_next {l : List Txt} {s : Txt} {k : Nat} (hk : k < l.length) (h1 : ∀ j (h : j < l.length), j < k → l[j] < s) (h : l[k] < s) : ∀ j (h : j < l.length), j < k + 1 → l[j] < s := fun j hj hjk => by
  rcases Nat.lt_or_eq_of_le (Nat.le_of_lt_succ hjk) with c | c
  · exact h1 j hj c
  · subst c; exact h

/-- The document's Add. -/
theorem add_ok (l : List Txt) (s : Txt) (σ : List Chunk) (hl : l.length ≤ 1000000) : FSpec Try.prog 42 [.val (.list (l.map strV)), .val (.str s)] σ (fun d σ' => d = .val (.list ((insL l s).map strV)) ∧ σ' = σ) := by
  refine spec_of_sw Try.func42 rfl ?_
  refine sw_seq ?_
  refine sl_region ?_
  refine sl_as rfl rfl rfl ?_
  refine sl_nil ?_
  refine sw_seq ?_
  refine sl_region ?_
  refine sl_as rfl rfl rfl ?_
  refine sl_nil ?_
  refine sw_seq ?_
  refine sw_block ?_
  refine sw_loopw (fun nX sX δX σX => ∃ (k : Nat), (l.length - k) = nX ∧ sX = ⟨44, (.cons 0 (.val (.list (l.map strV))) (.cons 1 (.val (.str s)) (.cons 5 (.val (.int .i64 (k : Int))) .nil)))⟩ ∧ δX = [] ∧ σX = σ ∧ (k ≤ l.length) ∧ (∀ j (h : j < l.length), j < k → l[j] < s)) ?_ ?_
  · refine ⟨_, _, _, ?_, ?_, 0, rfl, rfl, rfl, rfl, (Nat.zero_le _), (fun j _ h => absurd h (Nat.not_lt_zero j))⟩
    · exact ⟨rfl, by repeat constructor⟩
    · repeat constructor
  rintro nX sX δX σX ⟨k, rfl, rfl, rfl, rfl, hk0, hlt⟩
  refine sw_seq ?_
  refine sw_seq ?_
  refine sl_region ?_
  refine sl_mv rfl rfl rfl ?_
  refine sl_mv rfl rfl rfl ?_
  first
    | refine sl_len rfl rfl rfl ⟨_, u_38⟩ ?_
    | refine sl_len_sl rfl rfl rfl ⟨_, u_38⟩ ?_
    | refine sl_len_w _ rfl rfl rfl ⟨_, u_38⟩ ?_
  refine sl_bin rfl rfl rfl rfl rfl ?_
  refine sl_mv rfl rfl rfl ?_
  refine sl_case_at 10 rfl (fun g1 => ?_) (fun g1 => ?_)
  · have hk : k < l.length := by simpa using g1
    refine sl_guard_y rfl rfl rfl g1 ?_
    refine sl_mv rfl rfl rfl ?_
    refine sl_guard_y rfl rfl rfl g1 ?_
    refine sl_mv rfl rfl rfl ?_
    refine sl_guard_y rfl rfl rfl g1 ?_
    refine sl_indexAddr' rfl rfl rfl rfl u_38 sz_9 (by omega) (idx_map hk) rfl ?_
    refine sl_guard_y rfl rfl rfl g1 ?_
    first
      | refine sl_load_rp1 rfl rfl rfl ag_9 rfl ?_
      | refine sl_load_blk1 rfl rfl rfl ag_9 (by repeat constructor) rfl ?_
    refine sl_guard_y rfl rfl rfl g1 ?_
    refine sl_mv rfl rfl rfl ?_
    refine sl_guard_y rfl rfl rfl g1 ?_
    refine sl_str rfl rfl rfl rfl rfl ?_
    refine sl_pk_t rfl rfl rfl g1 rfl ?_
    refine sl_nil ?_
    refine sw_cond rfl (fun g2 => ?_) (fun g2 => ?_)
    · refine sw_skip ?_
      refine sw_block ?_
      refine sl_region ?_
      refine sl_mv rfl rfl rfl ?_
      first
        | refine sl_inc rfl rfl rfl rfl (by omega) ?_
        | refine sl_add rfl rfl rfl rfl (by constructor <;> omega) ?_
        | refine sl_bin rfl rfl rfl rfl rfl ?_
      refine sl_as rfl rfl rfl ?_
      refine sl_nil ?_
      refine ⟨_, by omega, _, _, ?_, ?_, k + 1, rfl, rfl, rfl, rfl, (by omega), (lt_next hk hlt (bl_tt g2))⟩
      · exact ⟨rfl, by repeat constructor⟩
      · repeat constructor
    refine sw_exit ?_
    refine sw_seq ?_
    refine sw_seq ?_
    refine sl_region ?_
    refine sl_mv rfl rfl rfl ?_
    refine sl_mv rfl rfl rfl ?_
    first
      | refine sl_len rfl rfl rfl ⟨_, u_38⟩ ?_
      | refine sl_len_sl rfl rfl rfl ⟨_, u_38⟩ ?_
      | refine sl_len_w _ rfl rfl rfl ⟨_, u_38⟩ ?_
    refine sl_bin rfl rfl rfl rfl rfl ?_
    refine sl_mv rfl rfl rfl ?_
    refine sl_guard_y rfl rfl rfl (g1) ?_
    refine sl_mv rfl rfl rfl ?_
    refine sl_guard_y rfl rfl rfl (g1) ?_
    refine sl_mv rfl rfl rfl ?_
    refine sl_guard_y rfl rfl rfl (g1) ?_
    refine sl_indexAddr' rfl rfl rfl rfl u_38 sz_9 (by omega) (idx_map hk) rfl ?_
    refine sl_guard_y rfl rfl rfl (g1) ?_
    first
      | refine sl_load_rp1 rfl rfl rfl ag_9 rfl ?_
      | refine sl_load_blk1 rfl rfl rfl ag_9 (by repeat constructor) rfl ?_
    refine sl_guard_y rfl rfl rfl (g1) ?_
    refine sl_mv rfl rfl rfl ?_
    refine sl_guard_y rfl rfl rfl (g1) ?_
    refine sl_str rfl rfl rfl rfl rfl ?_
    refine sl_pk_t rfl rfl rfl (g1) rfl ?_
    refine sl_nil ?_
    refine sw_cond rfl (fun g3 => ?_) (fun g3 => ?_)
    · refine sw_seq ?_
      refine sl_region ?_
      refine sl_mv rfl rfl rfl ?_
      refine sl_as rfl rfl rfl ?_
      refine sl_nil ?_
      refine sw_ret ⟨rfl, _, _, ResD.weak (res_one rfl rfl) (Weak.toV rfl ), ?_, ⟨by rw [← insL_same hk hlt (bl_ff g2) (by simpa using g3)], rfl⟩⟩
      repeat constructor
    refine sw_skip ?_
    refine sw_seq ?_
    refine sa_start [] mixed ?_
    refine sa_take 0 rfl rfl (by kernel_rfl) .nil (pu_mv rfl rfl) ?_
    refine sa_take 1 rfl rfl (by kernel_rfl) .nil (pu_mv rfl rfl) ?_
    refine sa_take 2 rfl rfl (by kernel_rfl) .nil (pu_mv rfl rfl) ?_
    refine sa_take 3 rfl rfl (by kernel_rfl) .nil (pu_slice_full k rfl rfl u_38 sz_9 (fun x hx => (SzI.get (by repeat constructor) x hx).1) rfl rfl (by simp only [List.length_map]; omega)) ?_
    refine sa_take 4 rfl rfl (by kernel_rfl) .nil (pu_mv rfl rfl) ?_
    refine sa_take 6 rfl rfl (by kernel_rfl) .nil (pu_mv rfl rfl) ?_
    refine sa_take 7 rfl rfl (by kernel_rfl) .nil (pu_mv rfl rfl) ?_
    refine sa_take 8 rfl rfl (by kernel_rfl) .nil (pu_slice_list k _ rfl rfl u_38 sz_9 (fun x hx => (SzI.get (by repeat constructor) x hx).1) ⟨_, rfl⟩ rfl (by simp only [List.length_map]; omega) (Nat.le_refl _)) ?_
    refine sa_one 5 (by kernel_rfl) rfl ?_
    refine sl_bs1 rfl rfl (.cons rfl .nil) u_38 sz_9 zs_9 (by decide) rfl rfl rfl rfl ?_
    refine sl_nil ⟨.nil, ?_⟩
    refine sa_set 41 (.val (.list ((l.drop k).map strV))) (congrArg (fun x => D.val (.list x)) (by rw [List.map_drop, List.take_of_length_le (by simp)])) ?_
    refine sa_set 36 (.fix ((l.take k).map strV)) (congrArg D.fix List.map_take.symm) ?_
    refine sa_own (t := 38) (sz := 1) rfl (fun w0 => ?_)
    refine sa_one 9 (by kernel_rfl) rfl ?_
    refine sl_appp rfl rfl rfl rfl u_38 ⟨_, u_38, rfl⟩ el_9 (by repeat constructor) (by repeat constructor) (by simp only [List.length_map, List.length_drop, List.length_cons, List.length_nil]; omega) ((rfl : _ = (s :: l.drop k).map strV)) (by repeat constructor) (fun v42 => ?_)
    refine sl_nil ⟨.nil, ?_⟩
    refine sa_own (t := 36) (sz := 1) rfl (fun w1 => ?_)
    refine sa_one 10 (by kernel_rfl) rfl ?_
    refine sl_appp rfl rfl rfl rfl u_38 ⟨_, u_38, rfl⟩ el_9 (by repeat constructor) (by repeat constructor) (by simp only [List.length_map, List.length_take, List.length_drop, List.length_cons]; omega) ((List.map_append.symm : _ = (l.take k ++ s :: l.drop k).map strV)) (by repeat constructor) (fun v43 => ?_)
    refine sl_nil ⟨.nil, ?_⟩
    refine sa_one 11 (by kernel_rfl) rfl ?_
    refine sl_as rfl rfl rfl ?_
    refine sl_nil ⟨.nil, ?_⟩
    refine sa_done (by kernel_rfl) ?_
    refine sw_ret ⟨rfl, _, _, ResD.weak (res_one rfl rfl) (Weak.toV rfl ), ?_, ⟨by rw [← insL_take hk0 hlt (fun _ => bl_ff g2) (by rw [List.getElem?_eq_getElem hk]; simpa using g3)], rfl⟩⟩
    repeat constructor
  have hk : k = l.length := by have := of_decide_eq_false g1; simp only [List.length_map] at this; omega
  refine sl_guard_n rfl rfl rfl g1 ?_
  refine sl_guard_n rfl rfl rfl g1 ?_
  refine sl_guard_n rfl rfl rfl g1 ?_
  refine sl_guard_n rfl rfl rfl g1 ?_
  refine sl_guard_n rfl rfl rfl g1 ?_
  refine sl_guard_n rfl rfl rfl g1 ?_
  refine sl_pk_f rfl rfl rfl g1 rfl ?_
  refine sl_nil ?_
  refine sw_false rfl (rfl) ?_
  refine sw_exit ?_
  refine sw_seq ?_
  refine sw_seq ?_
  refine sl_region ?_
  refine sl_mv rfl rfl rfl ?_
  refine sl_mv rfl rfl rfl ?_
  first
    | refine sl_len rfl rfl rfl ⟨_, u_38⟩ ?_
    | refine sl_len_sl rfl rfl rfl ⟨_, u_38⟩ ?_
    | refine sl_len_w _ rfl rfl rfl ⟨_, u_38⟩ ?_
  refine sl_bin rfl rfl rfl rfl rfl ?_
  refine sl_mv rfl rfl rfl ?_
  refine sl_guard_n rfl rfl rfl (g1) ?_
  refine sl_guard_n rfl rfl rfl (g1) ?_
  refine sl_guard_n rfl rfl rfl (g1) ?_
  refine sl_guard_n rfl rfl rfl (g1) ?_
  refine sl_guard_n rfl rfl rfl (g1) ?_
  refine sl_guard_n rfl rfl rfl (g1) ?_
  refine sl_pk_f rfl rfl rfl (g1) rfl ?_
  refine sl_nil ?_
  refine sw_false rfl (rfl) ?_
  refine sw_skip ?_
  refine sw_seq ?_
  refine sa_start [] mixed ?_
  refine sa_take 0 rfl rfl (by kernel_rfl) .nil (pu_mv rfl rfl) ?_
  refine sa_take 1 rfl rfl (by kernel_rfl) .nil (pu_mv rfl rfl) ?_
  refine sa_take 2 rfl rfl (by kernel_rfl) .nil (pu_mv rfl rfl) ?_
  refine sa_take 3 rfl rfl (by kernel_rfl) .nil (pu_slice_full k rfl rfl u_38 sz_9 (fun x hx => (SzI.get (by repeat constructor) x hx).1) rfl rfl (by simp only [List.length_map]; omega)) ?_
  refine sa_take 4 rfl rfl (by kernel_rfl) .nil (pu_mv rfl rfl) ?_
  refine sa_take 6 rfl rfl (by kernel_rfl) .nil (pu_mv rfl rfl) ?_
  refine sa_take 7 rfl rfl (by kernel_rfl) .nil (pu_mv rfl rfl) ?_
  refine sa_take 8 rfl rfl (by kernel_rfl) .nil (pu_slice_list k _ rfl rfl u_38 sz_9 (fun x hx => (SzI.get (by repeat constructor) x hx).1) ⟨_, rfl⟩ rfl (by simp only [List.length_map]; omega) (Nat.le_refl _)) ?_
  refine sa_one 5 (by kernel_rfl) rfl ?_
  refine sl_bs1 rfl rfl (.cons rfl .nil) u_38 sz_9 zs_9 (by decide) rfl rfl rfl rfl ?_
  refine sl_nil ⟨.nil, ?_⟩
  refine sa_set 41 (.val (.list ((l.drop k).map strV))) (congrArg (fun x => D.val (.list x)) (by rw [List.map_drop, List.take_of_length_le (by simp)])) ?_
  refine sa_set 36 (.fix ((l.take k).map strV)) (congrArg D.fix List.map_take.symm) ?_
  refine sa_own (t := 38) (sz := 1) rfl (fun w0 => ?_)
  refine sa_one 9 (by kernel_rfl) rfl ?_
  refine sl_appp rfl rfl rfl rfl u_38 ⟨_, u_38, rfl⟩ el_9 (by repeat constructor) (by repeat constructor) (by simp only [List.length_map, List.length_drop, List.length_cons, List.length_nil]; omega) ((rfl : _ = (s :: l.drop k).map strV)) (by repeat constructor) (fun v42 => ?_)
  refine sl_nil ⟨.nil, ?_⟩
  refine sa_own (t := 36) (sz := 1) rfl (fun w1 => ?_)
  refine sa_one 10 (by kernel_rfl) rfl ?_
  refine sl_appp rfl rfl rfl rfl u_38 ⟨_, u_38, rfl⟩ el_9 (by repeat constructor) (by repeat constructor) (by simp only [List.length_map, List.length_take, List.length_drop, List.length_cons]; omega) ((List.map_append.symm : _ = (l.take k ++ s :: l.drop k).map strV)) (by repeat constructor) (fun v43 => ?_)
  refine sl_nil ⟨.nil, ?_⟩
  refine sa_one 11 (by kernel_rfl) rfl ?_
  refine sl_as rfl rfl rfl ?_
  refine sl_nil ⟨.nil, ?_⟩
  refine sa_done (by kernel_rfl) ?_
  refine sw_ret ⟨rfl, _, _, ResD.weak (res_one rfl rfl) (Weak.toV rfl ), ?_, ⟨by rw [← insL_take hk0 hlt (fun h => absurd h (by omega)) (by rw [List.getElem?_eq_none (by omega)]; simp)], rfl⟩⟩
  repeat constructor

end Go.Proofs.Ytipacoopapjdpaa

/- Walks: printed by a program of this session out of its script PtsE. -/
namespace Go.Proofs.Ytipacoopapjdpaa
set_option linter.unusedVariables false
set_option linter.unusedSimpArgs false
set_option maxRecDepth 4000
set_option maxHeartbeats 4000000
open Go Go.RowKit SL


/-- The document's one form. -/
theorem rpts_ok (p : Pt) (σ : List Chunk) (hp : p.cells.length ≤ 1000000) : FSpec Try.prog 15 [.val (ptV p)] σ (fun d σ' => d = .val (ptV (nmP p)) ∧ σ' = σ) := by
  have hrl : ∀ k, (refL (p.cells.take k)).length ≤ 1000000 := fun k => by
    rw [refL_eq]; exact Nat.le_trans (normL_len _) (by simp; omega)
  refine spec_of_sw Try.func15 rfl ?_
  refine sw_seq ?_
  refine sl_region ?_
  refine sl_bx_imm rfl rfl rfl rfl rfl ?_
  refine sl_alloc rfl rfl zd_40 (fun b2 => ?_)
  refine sl_nil ?_
  refine sw_seq ?_
  refine sl_region ?_
  refine sl_as rfl rfl rfl ?_
  refine sl_nil ?_
  refine sw_seq ?_
  refine sw_seq ?_
  refine sl_region ?_
  refine sl_as rfl rfl rfl ?_
  refine sl_nil ?_
  refine sw_block ?_
  refine sw_loopw (fun nX sX δX σX => ∃ (k : Nat), (p.cells.length - k) = nX ∧ sX = ⟨23, (.cons 1 (.rp (ptV p).cells) (.cons 2 (.ptr b2 0) (.cons 3 (.val (.list ((refL (p.cells.take k)).map strV))) (.cons 4 (.val (.int .i64 (k : Int))) .nil))))⟩ ∧ δX = [] ∧ σX = .blk b2 zeroP :: σ ∧ (k ≤ p.cells.length)) ?_ ?_
  · refine ⟨_, _, _, ?_, ?_, 0, rfl, rfl, rfl, rfl, (Nat.zero_le _)⟩
    · exact ⟨rfl, by repeat constructor⟩
    · repeat constructor
  rintro nX sX δX σX ⟨k, rfl, rfl, rfl, rfl, hk0⟩
  refine sw_seq ?_
  refine sw_seq ?_
  refine sl_region ?_
  refine sl_mv rfl rfl rfl ?_
  first
    | refine sl_fieldAddr_ptr rfl rfl rfl fo_40_1 ?_
    | refine sl_fieldAddr_rp rfl rfl rfl fo_40_1 ?_
    | refine sl_fieldAddr_ref rfl rfl rfl fo_40_1 ?_
  first
    | refine sl_load_rp1 rfl rfl rfl ag_38 rfl ?_
    | refine sl_load_blk1 rfl rfl rfl ag_38 (by repeat constructor) rfl ?_
  first
    | refine sl_len rfl rfl rfl ⟨_, u_38⟩ ?_
    | refine sl_len_sl rfl rfl rfl ⟨_, u_38⟩ ?_
    | refine sl_len_w _ rfl rfl rfl ⟨_, u_38⟩ ?_
  refine sl_bin rfl rfl rfl rfl rfl ?_
  refine sl_nil ?_
  refine sw_cond rfl (fun hk => ?_) (fun hk => ?_)
  · have hk : k < p.cells.length := by simpa using hk
    refine sw_skip ?_
    refine sw_seq ?_
    refine sw_block ?_
    refine sl_region ?_
    refine sl_mv rfl rfl rfl ?_
    first
      | refine sl_fieldAddr_ptr rfl rfl rfl fo_40_1 ?_
      | refine sl_fieldAddr_rp rfl rfl rfl fo_40_1 ?_
      | refine sl_fieldAddr_ref rfl rfl rfl fo_40_1 ?_
    first
      | refine sl_load_rp1 rfl rfl rfl ag_38 rfl ?_
      | refine sl_load_blk1 rfl rfl rfl ag_38 (by repeat constructor) rfl ?_
    refine sl_mv rfl rfl rfl ?_
    refine sl_indexAddr' rfl rfl rfl rfl u_38 sz_9 (by omega) (idx_map hk) rfl ?_
    first
      | refine sl_load_rp1 rfl rfl rfl ag_9 rfl ?_
      | refine sl_load_blk1 rfl rfl rfl ag_9 (by repeat constructor) rfl ?_
    refine sl_callf rfl rfl cal_42 (add_ok (refL (p.cells.take k)) p.cells[k] (.blk b2 zeroP :: σ) (hrl k)) ?_ ?_ ?_ (fun _ _ h => h.elim)
    · repeat constructor
    · repeat constructor
    rintro _ _ ⟨rfl, rfl⟩
    rw [← refL_snoc hk]
    refine sl_as rfl rfl rfl ?_
    refine sl_nil ?_
    refine sl_region ?_
    refine sl_mv rfl rfl rfl ?_
    first
      | refine sl_inc rfl rfl rfl rfl (by omega) ?_
      | refine sl_add rfl rfl rfl rfl (by constructor <;> omega) ?_
      | refine sl_bin rfl rfl rfl rfl rfl ?_
    refine sl_as rfl rfl rfl ?_
    refine sl_nil ?_
    refine ⟨_, by omega, _, _, ?_, ?_, k + 1, rfl, rfl, rfl, rfl, (by omega)⟩
    · exact ⟨rfl, by repeat constructor⟩
    · repeat constructor
  have hk : k = p.cells.length := by have := of_decide_eq_false hk; simp only [List.length_map] at this; omega
  refine sw_exit ?_
  refine sw_seq ?_
  refine sl_region ?_
  first
    | refine sl_fieldAddr_ptr rfl rfl rfl fo_40_0 ?_
    | refine sl_fieldAddr_rp rfl rfl rfl fo_40_0 ?_
    | refine sl_fieldAddr_ref rfl rfl rfl fo_40_0 ?_
  first
    | refine sl_load_rp1 rfl rfl rfl ag_4 rfl ?_
    | refine sl_load_blk1 rfl rfl rfl ag_4 (by repeat constructor) rfl ?_
  refine sl_mv rfl rfl rfl ?_
  refine sl_bd rfl rfl (.cons rfl (.cons rfl .nil)) bi_40 zd_40 rfl ?_
  refine sl_stp rfl rfl rfl rfl sz_40 rfl rfl rfl (by repeat constructor) (Nat.le_of_ble_eq_true rfl) ?_
  refine sl_nil ?_
  refine sw_ret ⟨rfl, _, _, ResD.weak (res_celln rfl rfl ag_40 sz_40 (by repeat constructor) (Nat.le_of_ble_eq_true rfl)) (Weak.toV rfl ), ?_, by rw [hk, List.take_length, refL_eq]; exact ⟨rfl, rfl⟩⟩
  repeat constructor

/-- The document's Pjoin. -/
theorem rpjoin_ok (l : List Pt) (σ : List Chunk) (hl : l.length ≤ 1000) (hc : ∀ p ∈ l, p.cells.length ≤ 1000) : FSpec Try.prog 18 [.val (.list (l.map ptV))] σ (fun d σ' => d = .val (ptV (joinP l)) ∧ σ' = σ) := by
  have hcl := cells_len hc
  refine spec_of_sw Try.func18 rfl ?_
  refine sw_seq ?_
  refine sl_region ?_
  refine sl_alloc rfl rfl zd_40 (fun b2 => ?_)
  refine sl_nil ?_
  refine sw_seq ?_
  refine sl_region ?_
  refine sl_alloc rfl rfl zd_40 (fun b3 => ?_)
  refine sl_nil ?_
  refine sw_seq ?_
  refine sw_seq ?_
  refine sl_region ?_
  refine sl_as rfl rfl rfl ?_
  refine sl_nil ?_
  refine sw_block ?_
  refine sw_own_blk (i := 1) (sz := 1) rfl (fun e0 => ?_)
  refine sw_loopw (fun nX sX δX σX => ∃ (k : Nat) (v : Value) (nl : Bool), (l.length - k) = nX ∧ sX = ⟨33, (.cons 0 (.val (.list (l.map ptV))) (.cons 2 (.ptr b2 0) (.cons 3 (.ptr b3 0) (.cons 4 (.val (.int .i64 (k : Int))) .nil))))⟩ ∧ δX = [] ∧ σX = .blk b3 [.val (.bool nl), .own v ((allCells (l.take k)).map strV)] :: .spare v 1 :: .blk b2 zeroP :: σ ∧ (k ≤ l.length) ∧ (nl = (l.take k).any (·.null))) ?_ ?_
  · refine ⟨_, _, _, ?_, ?_, 0, e0, false, rfl, rfl, rfl, rfl, (Nat.zero_le _), (rfl)⟩
    · exact ⟨rfl, by repeat constructor⟩
    · repeat constructor
  rintro nX sX δX σX ⟨k, v, nl, rfl, rfl, rfl, rfl, hk0, hnl⟩
  refine sw_seq ?_
  refine sw_seq ?_
  refine sl_region ?_
  refine sl_mv rfl rfl rfl ?_
  refine sl_mv rfl rfl rfl ?_
  first
    | refine sl_len rfl rfl rfl ⟨_, u_37⟩ ?_
    | refine sl_len_sl rfl rfl rfl ⟨_, u_37⟩ ?_
    | refine sl_len_w _ rfl rfl rfl ⟨_, u_37⟩ ?_
  refine sl_bin rfl rfl rfl rfl rfl ?_
  refine sl_nil ?_
  refine sw_cond rfl (fun hk => ?_) (fun hk => ?_)
  · have hk : k < l.length := by simpa using hk
    have hck := hcl k
    have hce := hc _ (List.getElem_mem hk)
    refine sw_skip ?_
    refine sw_seq ?_
    refine sw_block ?_
    refine sw_seq ?_
    refine sl_region ?_
    first
      | refine sl_fieldAddr_ptr rfl rfl rfl fo_40_0 ?_
      | refine sl_fieldAddr_rp rfl rfl rfl fo_40_0 ?_
      | refine sl_fieldAddr_ref rfl rfl rfl fo_40_0 ?_
    first
      | refine sl_load_rp1 rfl rfl rfl ag_4 rfl ?_
      | refine sl_load_blk1 rfl rfl rfl ag_4 (by repeat constructor) rfl ?_
    refine sl_mv rfl rfl rfl ?_
    refine sl_case_at 13 rfl (fun h1 => ?_) (fun h1 => ?_)
    · have e1 : nl = true := h1
      refine sl_guard_n rfl rfl rfl h1 ?_
      refine sl_guard_n rfl rfl rfl h1 ?_
      refine sl_guard_n rfl rfl rfl h1 ?_
      refine sl_guard_n rfl rfl rfl h1 ?_
      refine sl_guard_n rfl rfl rfl h1 ?_
      refine sl_pk_t rfl rfl rfl h1 rfl ?_
      first
        | refine sl_fieldAddr_ptr rfl rfl rfl fo_40_0 ?_
        | refine sl_fieldAddr_rp rfl rfl rfl fo_40_0 ?_
        | refine sl_fieldAddr_ref rfl rfl rfl fo_40_0 ?_
      refine sl_stp rfl rfl rfl rfl sz_4 rfl rfl rfl (by repeat constructor) (Nat.le_of_ble_eq_true rfl) ?_
      refine sl_nil ?_
      refine sa_start [] mixed ?_
      first
        | refine sa_take 0 rfl rfl (by kernel_rfl) .nil (pu_fieldAddr_ptr rfl rfl fo_40_1) ?_
        | refine sa_take 0 rfl rfl (by kernel_rfl) .nil (pu_fieldAddr_rp rfl rfl fo_40_1) ?_
        | refine sa_take 0 rfl rfl (by kernel_rfl) .nil (pu_fieldAddr_ref rfl rfl fo_40_1) ?_
      refine sa_take 3 rfl rfl (by kernel_rfl) .nil (pu_mv rfl rfl) ?_
      refine sa_take 4 rfl rfl (by kernel_rfl) .nil (pu_mv rfl rfl) ?_
      refine sa_take 5 rfl rfl (by kernel_rfl) .nil (pu_indexAddr rfl rfl rfl u_37 sz_40 (by omega) (idx_map hk) rfl) ?_
      first
        | refine sa_take 6 rfl rfl (by kernel_rfl) .nil (pu_fieldAddr_ptr rfl rfl fo_40_1) ?_
        | refine sa_take 6 rfl rfl (by kernel_rfl) .nil (pu_fieldAddr_rp rfl rfl fo_40_1) ?_
        | refine sa_take 6 rfl rfl (by kernel_rfl) .nil (pu_fieldAddr_ref rfl rfl fo_40_1) ?_
      refine sa_take 7 rfl rfl (by kernel_rfl) .nil (pu_load_rp1 rfl rfl ag_38 rfl) ?_
      refine sa_one 1 (by kernel_rfl) rfl ?_
      refine sl_load_blk1 rfl rfl rfl ag_38 (by repeat constructor) rfl ?_
      refine sl_nil ⟨.nil, ?_⟩
      refine sa_one 2 (by kernel_rfl) rfl ?_
      refine sl_appf rfl rfl rfl rfl u_38 ⟨_, u_38, rfl⟩ el_9 (by repeat constructor) (by repeat constructor) (by simp only [List.length_map, List.length_nil]; omega) ((List.nil_append _ : _ = (allCells (l.take k)).map strV)) (fun v23 => ?_)
      refine sl_nil ⟨.nil, ?_⟩
      refine sa_one 8 (by kernel_rfl) rfl ?_
      refine sl_appp rfl rfl rfl rfl u_38 ⟨_, u_38, rfl⟩ el_9 (by repeat constructor) (by repeat constructor) (by simp only [List.length_map]; omega) ((by rw [← List.map_append, ← allCells_snoc hk] : _ = (allCells (l.take (k + 1))).map strV)) (by repeat constructor) (fun v29 => ?_)
      refine sl_nil ⟨.nil, ?_⟩
      first
        | refine sa_take 9 rfl rfl (by kernel_rfl) .nil (pu_fieldAddr_ptr rfl rfl fo_40_1) ?_
        | refine sa_take 9 rfl rfl (by kernel_rfl) .nil (pu_fieldAddr_rp rfl rfl fo_40_1) ?_
        | refine sa_take 9 rfl rfl (by kernel_rfl) .nil (pu_fieldAddr_ref rfl rfl fo_40_1) ?_
      refine sa_one 10 (by kernel_rfl) rfl ?_
      refine sl_stp rfl rfl rfl rfl sz_38 rfl rfl rfl (by repeat constructor) (Nat.le_of_ble_eq_true rfl) ?_
      refine sl_nil ⟨.nil, ?_⟩
      refine sa_done (by kernel_rfl) ?_
      refine sl_region ?_
      refine sl_mv rfl rfl rfl ?_
      first
        | refine sl_inc rfl rfl rfl rfl (by omega) ?_
        | refine sl_add rfl rfl rfl rfl (by constructor <;> omega) ?_
        | refine sl_bin rfl rfl rfl rfl rfl ?_
      refine sl_as rfl rfl rfl ?_
      refine sl_nil ?_
      refine ⟨_, by omega, _, _, ?_, ?_, k + 1, v29, true, rfl, rfl, rfl, rfl, (by omega), (by rw [any_snoc hk, ← hnl, e1]; rfl)⟩
      · exact ⟨rfl, by repeat constructor⟩
      · repeat constructor
    have e1 : nl = false := h1
    refine sl_guard_y rfl rfl rfl h1 ?_
    refine sl_mv rfl rfl rfl ?_
    refine sl_guard_y rfl rfl rfl h1 ?_
    refine sl_mv rfl rfl rfl ?_
    refine sl_guard_y rfl rfl rfl h1 ?_
    refine sl_indexAddr' rfl rfl rfl rfl u_37 sz_40 (by omega) (idx_map hk) rfl ?_
    refine sl_guard_y rfl rfl rfl h1 ?_
    first
      | refine sl_fieldAddr_ptr rfl rfl rfl fo_40_0 ?_
      | refine sl_fieldAddr_rp rfl rfl rfl fo_40_0 ?_
      | refine sl_fieldAddr_ref rfl rfl rfl fo_40_0 ?_
    refine sl_guard_y rfl rfl rfl h1 ?_
    first
      | refine sl_load_rp1 rfl rfl rfl ag_4 rfl ?_
      | refine sl_load_blk1 rfl rfl rfl ag_4 (by repeat constructor) rfl ?_
    refine sl_pk_f rfl rfl rfl h1 rfl ?_
    first
      | refine sl_fieldAddr_ptr rfl rfl rfl fo_40_0 ?_
      | refine sl_fieldAddr_rp rfl rfl rfl fo_40_0 ?_
      | refine sl_fieldAddr_ref rfl rfl rfl fo_40_0 ?_
    refine sl_stp rfl rfl rfl rfl sz_4 rfl rfl rfl (by repeat constructor) (Nat.le_of_ble_eq_true rfl) ?_
    refine sl_nil ?_
    refine sa_start [] mixed ?_
    first
      | refine sa_take 0 rfl rfl (by kernel_rfl) .nil (pu_fieldAddr_ptr rfl rfl fo_40_1) ?_
      | refine sa_take 0 rfl rfl (by kernel_rfl) .nil (pu_fieldAddr_rp rfl rfl fo_40_1) ?_
      | refine sa_take 0 rfl rfl (by kernel_rfl) .nil (pu_fieldAddr_ref rfl rfl fo_40_1) ?_
    refine sa_take 3 rfl rfl (by kernel_rfl) .nil (pu_mv rfl rfl) ?_
    refine sa_take 4 rfl rfl (by kernel_rfl) .nil (pu_mv rfl rfl) ?_
    refine sa_take 5 rfl rfl (by kernel_rfl) .nil (pu_indexAddr rfl rfl rfl u_37 sz_40 (by omega) (idx_map hk) rfl) ?_
    first
      | refine sa_take 6 rfl rfl (by kernel_rfl) .nil (pu_fieldAddr_ptr rfl rfl fo_40_1) ?_
      | refine sa_take 6 rfl rfl (by kernel_rfl) .nil (pu_fieldAddr_rp rfl rfl fo_40_1) ?_
      | refine sa_take 6 rfl rfl (by kernel_rfl) .nil (pu_fieldAddr_ref rfl rfl fo_40_1) ?_
    refine sa_take 7 rfl rfl (by kernel_rfl) .nil (pu_load_rp1 rfl rfl ag_38 rfl) ?_
    refine sa_one 1 (by kernel_rfl) rfl ?_
    refine sl_load_blk1 rfl rfl rfl ag_38 (by repeat constructor) rfl ?_
    refine sl_nil ⟨.nil, ?_⟩
    refine sa_one 2 (by kernel_rfl) rfl ?_
    refine sl_appf rfl rfl rfl rfl u_38 ⟨_, u_38, rfl⟩ el_9 (by repeat constructor) (by repeat constructor) (by simp only [List.length_map, List.length_nil]; omega) ((List.nil_append _ : _ = (allCells (l.take k)).map strV)) (fun v23 => ?_)
    refine sl_nil ⟨.nil, ?_⟩
    refine sa_one 8 (by kernel_rfl) rfl ?_
    refine sl_appp rfl rfl rfl rfl u_38 ⟨_, u_38, rfl⟩ el_9 (by repeat constructor) (by repeat constructor) (by simp only [List.length_map]; omega) ((by rw [← List.map_append, ← allCells_snoc hk] : _ = (allCells (l.take (k + 1))).map strV)) (by repeat constructor) (fun v29 => ?_)
    refine sl_nil ⟨.nil, ?_⟩
    first
      | refine sa_take 9 rfl rfl (by kernel_rfl) .nil (pu_fieldAddr_ptr rfl rfl fo_40_1) ?_
      | refine sa_take 9 rfl rfl (by kernel_rfl) .nil (pu_fieldAddr_rp rfl rfl fo_40_1) ?_
      | refine sa_take 9 rfl rfl (by kernel_rfl) .nil (pu_fieldAddr_ref rfl rfl fo_40_1) ?_
    refine sa_one 10 (by kernel_rfl) rfl ?_
    refine sl_stp rfl rfl rfl rfl sz_38 rfl rfl rfl (by repeat constructor) (Nat.le_of_ble_eq_true rfl) ?_
    refine sl_nil ⟨.nil, ?_⟩
    refine sa_done (by kernel_rfl) ?_
    refine sl_region ?_
    refine sl_mv rfl rfl rfl ?_
    first
      | refine sl_inc rfl rfl rfl rfl (by omega) ?_
      | refine sl_add rfl rfl rfl rfl (by constructor <;> omega) ?_
      | refine sl_bin rfl rfl rfl rfl rfl ?_
    refine sl_as rfl rfl rfl ?_
    refine sl_nil ?_
    refine ⟨_, by omega, _, _, ?_, ?_, k + 1, v29, (l[k]).null, rfl, rfl, rfl, rfl, (by omega), (by rw [any_snoc hk, ← hnl, e1]; rfl)⟩
    · exact ⟨rfl, by repeat constructor⟩
    · repeat constructor
  have hk : k = l.length := by have := of_decide_eq_false hk; simp only [List.length_map] at this; omega
  refine sw_exit ?_
  refine sw_seq ?_
  refine sl_region ?_
  first
    | refine sl_load_rpn rfl rfl rfl ag_40 sz_40 (Nat.le_of_ble_eq_true rfl) ?_
    | refine sl_load_blkn rfl rfl rfl ag_40 sz_40 (by repeat constructor) (Nat.le_of_ble_eq_true rfl) ?_
    | refine sl_load_ref rfl rfl rfl ag_40 sz_40 (Nat.le_of_ble_eq_true rfl) ?_
  refine sl_callf rfl rfl cal_15 (rpts_ok ⟨nl, allCells (l.take k)⟩ (.blk b3 [.val (.bool nl), .own v ((allCells (l.take k)).map strV)] :: .spare v 1 :: .blk b2 zeroP :: σ) (by have := hcl k; show (allCells (l.take k)).length ≤ _; omega)) ?_ ?_ ?_ (fun _ _ h => h.elim)
  · repeat constructor
  · repeat constructor
  rintro _ _ ⟨rfl, rfl⟩
  refine sl_stp rfl rfl rfl rfl sz_40 rfl rfl rfl (by repeat constructor) (Nat.le_of_ble_eq_true rfl) ?_
  refine sl_nil ?_
  refine sw_ret ⟨rfl, _, _, ResD.weak (res_celln rfl rfl ag_40 sz_40 (by repeat constructor) (Nat.le_of_ble_eq_true rfl)) (Weak.toV rfl ), ?_, by rw [hnl, hk, List.take_length]; exact ⟨rfl, rfl⟩⟩
  repeat constructor

end Go.Proofs.Ytipacoopapjdpaa

/- Walks: printed by a program of this session out of its script PtsF. -/
namespace Go.Proofs.Ytipacoopapjdpaa
set_option linter.unusedVariables false
set_option linter.unusedSimpArgs false
set_option maxRecDepth 4000
set_option maxHeartbeats 4000000
open Go Go.RowKit SL


def nullL (b : Bool) : List Txt := if b then [nullT] else []

theorem joinb {p : Pt} (hp : p.cells.length ≤ 1000) (hc : ∀ x ∈ p.cells, x.length ≤ 1000) (b : Bool) (k : Nat) : (Lib.join (nullL b ++ (normL p.cells).take k) [44]).length ≤ 2000000 := by
  have hnl := normL_len p.cells
  have h1 : (Lib.join (nullL b ++ (normL p.cells).take k) [44]).length ≤ (nullL b ++ (normL p.cells).take k).length * (1000 + [44].length) := join_len fun x hx => by
    rcases List.mem_append.mp hx with hx | hx
    · cases b <;> simp [nullL, nullT] at hx; subst hx; simp
    · exact hc x (mem_normL.mp (List.mem_of_mem_take hx))
  have h2 : (nullL b ++ (normL p.cells).take k).length ≤ 1001 := by cases b <;> simp [nullL] <;> omega
  have h3 : (nullL b ++ (normL p.cells).take k).length * (1000 + [44].length) ≤ 1001 * 1001 := Nat.mul_le_mul h2 (Nat.le_refl _)
  omega
theorem cellb {p : Pt} (hc : ∀ x ∈ p.cells, x.length ≤ 1000) {k : Nat} (hk : k < (normL p.cells).length) : ((normL p.cells)[k]).length ≤ 1000 := hc _ (mem_normL.mp (List.getElem_mem hk))

theorem ptext_ok (p : Pt) (σ : List Chunk) (hp : p.cells.length ≤ 1000) (hc : ∀ x ∈ p.cells, x.length ≤ 1000) : FSpec Try.prog 25 [.val (ptV p)] σ (fun d σ' => d = .val (.str (textP p)) ∧ σ' = σ) := by
  have hnl := normL_len p.cells
  have hjl : ∀ b, (Lib.join (nullL b ++ normL p.cells) [44]).length ≤ 2000000 := fun b => by
    have := joinb hp hc b (normL p.cells).length
    rwa [List.take_length] at this
  refine spec_of_sw Try.func25 rfl ?_
  refine sw_seq ?_
  refine sl_region ?_
  refine sl_bx_imm rfl rfl rfl rfl rfl ?_
  refine sl_as rfl rfl rfl ?_
  refine sl_nil ?_
  refine sw_seq ?_
  refine sl_region ?_
  refine sl_as rfl rfl rfl ?_
  refine sl_nil ?_
  refine sw_seq ?_
  refine sw_seq ?_
  refine sl_region ?_
  first
    | refine sl_fieldAddr_ptr rfl rfl rfl fo_40_0 ?_
    | refine sl_fieldAddr_rp rfl rfl rfl fo_40_0 ?_
    | refine sl_fieldAddr_ref rfl rfl rfl fo_40_0 ?_
  first
    | refine sl_load_rp1 rfl rfl rfl ag_4 rfl ?_
    | refine sl_load_blk1 rfl rfl rfl ag_4 (by repeat constructor) rfl ?_
  refine sl_nil ?_
  refine sw_cond rfl (fun h1 => ?_) (fun h1 => ?_)
  · have e1 : p.null = true := h1
    refine sl_region ?_
    refine sl_mv rfl rfl rfl ?_
    refine sl_bs1 rfl rfl (.cons rfl .nil) u_38 sz_9 zs_9 (by decide) rfl rfl rfl rfl ?_
    refine sl_appf rfl rfl rfl rfl u_38 ⟨_, u_38, rfl⟩ el_9 (by repeat constructor) (by repeat constructor) (by decide) ((rfl : _ = (nullL true).map strV)) (fun v8 => ?_)
    refine sl_as rfl rfl rfl ?_
    refine sl_nil ?_
    refine sw_seq ?_
    refine sl_region ?_
    refine sl_mv rfl rfl rfl ?_
    first
      | refine sl_load_rpn rfl rfl rfl ag_40 sz_40 (Nat.le_of_ble_eq_true rfl) ?_
      | refine sl_load_blkn rfl rfl rfl ag_40 sz_40 (by repeat constructor) (Nat.le_of_ble_eq_true rfl) ?_
      | refine sl_load_ref rfl rfl rfl ag_40 sz_40 (Nat.le_of_ble_eq_true rfl) ?_
    refine sl_callf rfl rfl cal_44 (pplain_ok p (.spare v8 1 :: σ) (by omega)) ?_ ?_ ?_ (fun _ _ h => h.elim)
    · repeat constructor
    · repeat constructor
    rintro _ _ ⟨rfl, rfl⟩
    first | refine sl_field rfl rfl (Weak.refl _) fi_40_1 (Nat.le_of_ble_eq_true rfl) (by decide) ?_ | refine sl_field rfl rfl (Weak.agg _) fi_40_1 (Nat.le_of_ble_eq_true rfl) (by decide) ?_
    refine sl_appp rfl rfl rfl rfl u_38 ⟨_, u_38, rfl⟩ el_9 (by repeat constructor) (by repeat constructor) (by simp only [List.length_map, List.length_cons, List.length_nil, nullL, if_true, nmP]; omega) ((List.map_append.symm : _ = (nullL true ++ normL p.cells).map strV)) (by repeat constructor) (fun v13 => ?_)
    refine sl_callf rfl rfl cal_49 (join_ok (nullL true ++ normL p.cells) [44] (.spare v13 1 :: σ) (by cases p.null <;> simp [nullL] <;> omega) (by have := hjl true; omega)) ?_ ?_ ?_ (fun _ _ h => h.elim)
    · repeat constructor
    · repeat constructor
    rintro _ _ ⟨rfl, rfl⟩
    refine sl_str_add rfl rfl rfl rfl (by have := hjl true; simp only [List.length_cons, List.length_nil]; omega) ?_
    refine sl_str_add rfl rfl rfl rfl (by have := hjl true; simp only [List.length_append, List.length_cons, List.length_nil]; omega) ?_
    refine sl_as rfl rfl rfl ?_
    refine sl_nil ?_
    refine sw_ret ⟨rfl, _, _, res_one rfl rfl, ?_, ⟨congrArg (fun x => D.val (.str x)) (by unfold textP; rw [e1]; rfl), rfl⟩⟩
    repeat constructor
  have e1 : p.null = false := h1
  refine sw_skip ?_
  refine sw_seq ?_
  refine sl_region ?_
  refine sl_mv rfl rfl rfl ?_
  first
    | refine sl_load_rpn rfl rfl rfl ag_40 sz_40 (Nat.le_of_ble_eq_true rfl) ?_
    | refine sl_load_blkn rfl rfl rfl ag_40 sz_40 (by repeat constructor) (Nat.le_of_ble_eq_true rfl) ?_
    | refine sl_load_ref rfl rfl rfl ag_40 sz_40 (Nat.le_of_ble_eq_true rfl) ?_
  refine sl_callf rfl rfl cal_44 (pplain_ok p σ (by omega)) ?_ ?_ ?_ (fun _ _ h => h.elim)
  · repeat constructor
  · repeat constructor
  rintro _ _ ⟨rfl, hσ⟩
  have hσ2 := hσ.symm
  subst hσ2
  first | refine sl_field rfl rfl (Weak.refl _) fi_40_1 (Nat.le_of_ble_eq_true rfl) (by decide) ?_ | refine sl_field rfl rfl (Weak.agg _) fi_40_1 (Nat.le_of_ble_eq_true rfl) (by decide) ?_
  refine sl_appf rfl rfl rfl rfl u_38 ⟨_, u_38, rfl⟩ el_9 (by repeat constructor) (by repeat constructor) (by simp only [List.length_map, List.length_nil, nmP]; omega) ((rfl : _ = (nullL false ++ normL p.cells).map strV)) (fun v13 => ?_)
  refine sl_callf rfl rfl cal_49 (join_ok (nullL false ++ normL p.cells) [44] (.spare v13 1 :: σ) (by simp [nullL]; omega) (by have := hjl false; omega)) ?_ ?_ ?_ (fun _ _ h => h.elim)
  · repeat constructor
  · repeat constructor
  rintro _ _ ⟨rfl, rfl⟩
  refine sl_str_add rfl rfl rfl rfl (by have := hjl false; simp only [List.length_cons, List.length_nil]; omega) ?_
  refine sl_str_add rfl rfl rfl rfl (by have := hjl false; simp only [List.length_append, List.length_cons, List.length_nil]; omega) ?_
  refine sl_as rfl rfl rfl ?_
  refine sl_nil ?_
  refine sw_ret ⟨rfl, _, _, res_one rfl rfl, ?_, ⟨congrArg (fun x => D.val (.str x)) (by unfold textP; rw [e1]; rfl), rfl⟩⟩
  repeat constructor

theorem text_next {b : Bool} {l : List Txt} {k : Nat} {s : Txt} (hk : k < l.length) (h : s = Lib.join (nullL b ++ l.take k) [44]) :
    (if b = true ∨ 0 < k then s ++ [44] ++ l[k] else s ++ l[k]) = Lib.join (nullL b ++ l.take (k + 1)) [44] := by
  rw [List.take_add_one, List.getElem?_eq_getElem hk, ← List.append_assoc, h]
  show _ = Lib.join (nullL b ++ l.take k ++ [l[k]]) [44]
  by_cases c : b = true ∨ 0 < k
  · rw [if_pos c, join_snoc]
    rcases c with rfl | c
    · simp [nullL]
    · intro e
      have := (List.append_eq_nil_iff.mp e).2
      rw [List.take_eq_nil_iff] at this
      rcases this with h | h
      · omega
      · subst h; simp at hk
  · rw [if_neg c]
    have hb : b = false := by cases b <;> simp_all
    have hk0 : k = 0 := by omega
    subst hb; subst hk0
    simp [nullL, join_one, Lib.join_nil]

theorem rptext_ok (p : Pt) (σ : List Chunk) (hp : p.cells.length ≤ 1000) (hc : ∀ x ∈ p.cells, x.length ≤ 1000) : FSpec Try.prog 26 [.val (ptV p)] σ (fun d σ' => d = .val (.str (textP p)) ∧ σ' = σ) := by
  have hnl := normL_len p.cells
  refine spec_of_sw Try.func26 rfl ?_
  refine sw_seq ?_
  refine sl_region ?_
  refine sl_bx rfl rfl rfl rfl (fun b1 => ?_)
  refine sl_as rfl rfl rfl ?_
  refine sl_nil ?_
  refine sw_seq ?_
  refine sl_region ?_
  first
    | refine sl_load_rpn rfl rfl rfl ag_40 sz_40 (Nat.le_of_ble_eq_true rfl) ?_
    | refine sl_load_blkn rfl rfl rfl ag_40 sz_40 (by repeat constructor) (Nat.le_of_ble_eq_true rfl) ?_
    | refine sl_load_ref rfl rfl rfl ag_40 sz_40 (Nat.le_of_ble_eq_true rfl) ?_
  refine sl_callf rfl rfl cal_15 (rpts_ok p (.blk b1 (rowOf (ptV p)) :: σ) (by omega)) ?_ ?_ ?_ (fun _ _ h => h.elim)
  · repeat constructor
  · repeat constructor
  rintro _ _ ⟨rfl, rfl⟩
  refine sl_stp rfl rfl rfl rfl sz_40 rfl rfl rfl (by repeat constructor) (Nat.le_of_ble_eq_true rfl) ?_
  refine sl_nil ?_
  refine sw_seq ?_
  refine sl_region ?_
  refine sl_as rfl rfl rfl ?_
  refine sl_nil ?_
  refine sw_seq ?_
  refine sw_seq ?_
  refine sl_region ?_
  first
    | refine sl_fieldAddr_ptr rfl rfl rfl fo_40_0 ?_
    | refine sl_fieldAddr_rp rfl rfl rfl fo_40_0 ?_
    | refine sl_fieldAddr_ref rfl rfl rfl fo_40_0 ?_
  first
    | refine sl_load_rp1 rfl rfl rfl ag_4 rfl ?_
    | refine sl_load_blk1 rfl rfl rfl ag_4 (by repeat constructor) rfl ?_
  refine sl_nil ?_
  refine sw_cutk ⟨34, (.cons 1 (.ptr b1 0) (.cons 3 (.val (.str (Lib.join (nullL p.null) [44]))) .nil))⟩ (.blk b1 (rowOf (ptV (nmP p))) :: σ) (True) ?_ ?_
  · refine sw_cond rfl (fun h1 => ?_) (fun h1 => ?_)
    · have e1 : p.null = true := h1
      refine sl_region ?_
      refine sl_as rfl rfl rfl ?_
      refine sl_set 3 (.val (.str (Lib.join (nullL p.null) [44]))) (congrArg (fun x => D.val (.str x)) (by rw [e1]; exact (join_one nullT [44]).symm)) ?_
      refine sl_nil ?_
      refine ⟨?_, ?_, rfl, trivial⟩
      · exact ⟨rfl, by repeat constructor⟩
      · repeat constructor
    have e1 : p.null = false := h1
    refine sw_set 3 (.val (.str (Lib.join (nullL p.null) [44]))) (congrArg (fun x => D.val (.str x)) (by rw [e1]; rfl)) ?_
    refine sw_skip ?_
    refine ⟨?_, ?_, rfl, trivial⟩
    · exact ⟨rfl, by repeat constructor⟩
    · repeat constructor
  intro _
  refine sw_seq ?_
  refine sw_seq ?_
  refine sl_region ?_
  refine sl_as rfl rfl rfl ?_
  refine sl_nil ?_
  refine sw_block ?_
  refine sw_loopw (fun nX sX δX σX => ∃ (k : Nat) (s : Txt), ((normL p.cells).length - k) = nX ∧ sX = ⟨34, (.cons 1 (.ptr b1 0) (.cons 3 (.val (.str s)) (.cons 4 (.val (.int .i64 (k : Int))) .nil)))⟩ ∧ δX = [] ∧ σX = .blk b1 (rowOf (ptV (nmP p))) :: σ ∧ (k ≤ (normL p.cells).length) ∧ (s = Lib.join (nullL p.null ++ (normL p.cells).take k) [44])) ?_ ?_
  · refine ⟨_, _, _, ?_, ?_, 0, Lib.join (nullL p.null) [44], rfl, rfl, rfl, rfl, (Nat.zero_le _), (by simp)⟩
    · exact ⟨rfl, by repeat constructor⟩
    · repeat constructor
  rintro nX sX δX σX ⟨k, s, rfl, rfl, rfl, rfl, hk0, hs⟩
  refine sw_seq ?_
  refine sw_seq ?_
  refine sl_region ?_
  refine sl_mv rfl rfl rfl ?_
  first
    | refine sl_fieldAddr_ptr rfl rfl rfl fo_40_1 ?_
    | refine sl_fieldAddr_rp rfl rfl rfl fo_40_1 ?_
    | refine sl_fieldAddr_ref rfl rfl rfl fo_40_1 ?_
  first
    | refine sl_load_rp1 rfl rfl rfl ag_38 rfl ?_
    | refine sl_load_blk1 rfl rfl rfl ag_38 (by repeat constructor) rfl ?_
  first
    | refine sl_len rfl rfl rfl ⟨_, u_38⟩ ?_
    | refine sl_len_sl rfl rfl rfl ⟨_, u_38⟩ ?_
    | refine sl_len_w _ rfl rfl rfl ⟨_, u_38⟩ ?_
  refine sl_bin rfl rfl rfl rfl rfl ?_
  refine sl_nil ?_
  refine sw_cond rfl (fun hk => ?_) (fun hk => ?_)
  · have hk : k < (normL p.cells).length := by simpa [nmP] using hk
    have hnx := text_next hk hs
    have hsl : s.length ≤ 2000000 := by rw [hs]; exact joinb hp hc _ _
    have hcl := cellb hc hk
    refine sw_skip ?_
    refine sw_seq ?_
    refine sw_block ?_
    refine sw_seq ?_
    refine sw_seq ?_
    refine sl_region ?_
    first
      | refine sl_fieldAddr_ptr rfl rfl rfl fo_40_0 ?_
      | refine sl_fieldAddr_rp rfl rfl rfl fo_40_0 ?_
      | refine sl_fieldAddr_ref rfl rfl rfl fo_40_0 ?_
    first
      | refine sl_load_rp1 rfl rfl rfl ag_4 rfl ?_
      | refine sl_load_blk1 rfl rfl rfl ag_4 (by repeat constructor) rfl ?_
    refine sl_mv rfl rfl rfl ?_
    refine sl_case_at 18 rfl (fun h1 => ?_) (fun h1 => ?_)
    · have e1 : p.null = true := h1
      refine sl_guard_n rfl rfl rfl h1 ?_
      refine sl_guard_n rfl rfl rfl h1 ?_
      refine sl_pk_t rfl rfl rfl h1 rfl ?_
      refine sl_nil ?_
      refine sw_true rfl (rfl) ?_
      refine sl_region ?_
      refine sl_mv rfl rfl rfl ?_
      refine sl_str_add rfl rfl rfl rfl (by simp only [List.length_cons, List.length_nil]; omega) ?_
      refine sl_as rfl rfl rfl ?_
      refine sl_nil ?_
      refine sl_region ?_
      refine sl_mv rfl rfl rfl ?_
      first
        | refine sl_fieldAddr_ptr rfl rfl rfl fo_40_1 ?_
        | refine sl_fieldAddr_rp rfl rfl rfl fo_40_1 ?_
        | refine sl_fieldAddr_ref rfl rfl rfl fo_40_1 ?_
      first
        | refine sl_load_rp1 rfl rfl rfl ag_38 rfl ?_
        | refine sl_load_blk1 rfl rfl rfl ag_38 (by repeat constructor) rfl ?_
      refine sl_mv rfl rfl rfl ?_
      refine sl_indexAddr' rfl rfl rfl rfl u_38 sz_9 (by omega) (idx_map hk) rfl ?_
      first
        | refine sl_load_rp1 rfl rfl rfl ag_9 rfl ?_
        | refine sl_load_blk1 rfl rfl rfl ag_9 (by repeat constructor) rfl ?_
      refine sl_str_add rfl rfl rfl rfl (by simp only [List.length_append, List.length_cons, List.length_nil]; omega) ?_
      refine sl_as rfl rfl rfl ?_
      refine sl_nil ?_
      refine sl_region ?_
      refine sl_mv rfl rfl rfl ?_
      first
        | refine sl_inc rfl rfl rfl rfl (by omega) ?_
        | refine sl_add rfl rfl rfl rfl (by constructor <;> omega) ?_
        | refine sl_bin rfl rfl rfl rfl rfl ?_
      refine sl_as rfl rfl rfl ?_
      refine sl_nil ?_
      refine ⟨_, by omega, _, _, ?_, ?_, k + 1, _, rfl, rfl, rfl, rfl, (by omega), (by rw [← hnx, if_pos (.inl e1)])⟩
      · exact ⟨rfl, by repeat constructor⟩
      · repeat constructor
    have e1 : p.null = false := h1
    refine sl_guard_y rfl rfl rfl h1 ?_
    refine sl_mv rfl rfl rfl ?_
    refine sl_guard_y rfl rfl rfl h1 ?_
    refine sl_bin rfl rfl rfl rfl rfl ?_
    refine sl_pk_f rfl rfl rfl h1 rfl ?_
    refine sl_nil ?_
    refine sw_cond rfl (fun h2 => ?_) (fun h2 => ?_)
    · refine sl_region ?_
      refine sl_mv rfl rfl rfl ?_
      refine sl_str_add rfl rfl rfl rfl (by simp only [List.length_cons, List.length_nil]; omega) ?_
      refine sl_as rfl rfl rfl ?_
      refine sl_nil ?_
      refine sl_region ?_
      refine sl_mv rfl rfl rfl ?_
      first
        | refine sl_fieldAddr_ptr rfl rfl rfl fo_40_1 ?_
        | refine sl_fieldAddr_rp rfl rfl rfl fo_40_1 ?_
        | refine sl_fieldAddr_ref rfl rfl rfl fo_40_1 ?_
      first
        | refine sl_load_rp1 rfl rfl rfl ag_38 rfl ?_
        | refine sl_load_blk1 rfl rfl rfl ag_38 (by repeat constructor) rfl ?_
      refine sl_mv rfl rfl rfl ?_
      refine sl_indexAddr' rfl rfl rfl rfl u_38 sz_9 (by omega) (idx_map hk) rfl ?_
      first
        | refine sl_load_rp1 rfl rfl rfl ag_9 rfl ?_
        | refine sl_load_blk1 rfl rfl rfl ag_9 (by repeat constructor) rfl ?_
      refine sl_str_add rfl rfl rfl rfl (by simp only [List.length_append, List.length_cons, List.length_nil]; omega) ?_
      refine sl_as rfl rfl rfl ?_
      refine sl_nil ?_
      refine sl_region ?_
      refine sl_mv rfl rfl rfl ?_
      first
        | refine sl_inc rfl rfl rfl rfl (by omega) ?_
        | refine sl_add rfl rfl rfl rfl (by constructor <;> omega) ?_
        | refine sl_bin rfl rfl rfl rfl rfl ?_
      refine sl_as rfl rfl rfl ?_
      refine sl_nil ?_
      refine ⟨_, by omega, _, _, ?_, ?_, k + 1, _, rfl, rfl, rfl, rfl, (by omega), (by rw [← hnx, if_pos (.inr (by have := of_decide_eq_true h2; omega))])⟩
      · exact ⟨rfl, by repeat constructor⟩
      · repeat constructor
    refine sw_skip ?_
    refine sl_region ?_
    refine sl_mv rfl rfl rfl ?_
    first
      | refine sl_fieldAddr_ptr rfl rfl rfl fo_40_1 ?_
      | refine sl_fieldAddr_rp rfl rfl rfl fo_40_1 ?_
      | refine sl_fieldAddr_ref rfl rfl rfl fo_40_1 ?_
    first
      | refine sl_load_rp1 rfl rfl rfl ag_38 rfl ?_
      | refine sl_load_blk1 rfl rfl rfl ag_38 (by repeat constructor) rfl ?_
    refine sl_mv rfl rfl rfl ?_
    refine sl_indexAddr' rfl rfl rfl rfl u_38 sz_9 (by omega) (idx_map hk) rfl ?_
    first
      | refine sl_load_rp1 rfl rfl rfl ag_9 rfl ?_
      | refine sl_load_blk1 rfl rfl rfl ag_9 (by repeat constructor) rfl ?_
    refine sl_str_add rfl rfl rfl rfl (by omega) ?_
    refine sl_as rfl rfl rfl ?_
    refine sl_nil ?_
    refine sl_region ?_
    refine sl_mv rfl rfl rfl ?_
    first
      | refine sl_inc rfl rfl rfl rfl (by omega) ?_
      | refine sl_add rfl rfl rfl rfl (by constructor <;> omega) ?_
      | refine sl_bin rfl rfl rfl rfl rfl ?_
    refine sl_as rfl rfl rfl ?_
    refine sl_nil ?_
    refine ⟨_, by omega, _, _, ?_, ?_, k + 1, _, rfl, rfl, rfl, rfl, (by omega), (by rw [← hnx, if_neg (by rw [e1]; have := of_decide_eq_false h2; simp; omega)])⟩
    · exact ⟨rfl, by repeat constructor⟩
    · repeat constructor
  have hk : k = (normL p.cells).length := by have := of_decide_eq_false hk; simp only [List.length_map, nmP] at this; omega
  have hsl : s.length ≤ 2000000 := by rw [hs]; exact joinb hp hc _ _
  refine sw_exit ?_
  refine sw_seq ?_
  refine sl_region ?_
  refine sl_mv rfl rfl rfl ?_
  refine sl_str_add rfl rfl rfl rfl (by simp only [List.length_cons, List.length_nil]; omega) ?_
  refine sl_str_add rfl rfl rfl rfl (by simp only [List.length_append, List.length_cons, List.length_nil]; omega) ?_
  refine sl_as rfl rfl rfl ?_
  refine sl_nil ?_
  refine sw_ret ⟨rfl, _, _, res_one rfl rfl, ?_, ⟨congrArg (fun x => D.val (.str x)) (by unfold textP; rw [hs, hk, List.take_length]; rfl), rfl⟩⟩
  repeat constructor

end Go.Proofs.Ytipacoopapjdpaa

/- Walks: printed by a program of this session out of its script PtsG. -/
namespace Go.Proofs.Ytipacoopapjdpaa
set_option linter.unusedVariables false
set_option linter.unusedSimpArgs false
set_option maxRecDepth 4000
set_option maxHeartbeats 4000000
open Go Go.RowKit SL


def lightP (p : Pt) : Bool := decide (p.cells.length ≤ 10) && p.cells.all fun x => decide (x.length ≤ 50)
def lightL (l : List Pt) : Bool := decide (l.length ≤ 10) && l.all lightP
theorem lightP_iff {p : Pt} : lightP p = true ↔ p.cells.length ≤ 10 ∧ ∀ x ∈ p.cells, x.length ≤ 50 := by simp [lightP]
theorem lightL_iff {l : List Pt} : lightL l = true ↔ l.length ≤ 10 ∧ ∀ p ∈ l, lightP p = true := by simp [lightL]
theorem light_no {l : List Pt} {p : Pt} (hp : p ∈ l) (h : lightP p ≠ true) : D.val (.bool false) = .val (.bool (lightL l)) := by
  rw [show lightL l = false by rw [Bool.eq_false_iff]; intro e; exact h ((lightL_iff.mp e).2 p hp)]
theorem light_next {l : List Pt} {k : Nat} (hk : k < l.length) (h : ∀ p ∈ l.take k, lightP p = true) (e : lightP l[k] = true) : ∀ p ∈ l.take (k + 1), lightP p = true := by
  rw [List.take_add_one, List.getElem?_eq_getElem hk]
  intro p hp
  rcases List.mem_append.mp hp with hp | hp
  · exact h p hp
  · simp at hp; subst hp; exact e
theorem short_next {l : List Txt} {k c : Nat} (hk : k < l.length) (h : ∀ x ∈ l.take k, x.length ≤ c) (e : l[k].length ≤ c) : ∀ x ∈ l.take (k + 1), x.length ≤ c := by
  rw [List.take_add_one, List.getElem?_eq_getElem hk]
  intro p hp
  rcases List.mem_append.mp hp with hp | hp
  · exact h p hp
  · simp at hp; subst hp; exact e

theorem light_ok (l : List Pt) (σ : List Chunk) : FSpec Try.prog 14 [.val (.list (l.map ptV))] σ (fun d σ' => d = .val (.bool (lightL l)) ∧ σ' = σ) := by
  refine spec_of_sw Try.func14 rfl ?_
  refine sw_seq ?_
  refine sl_region ?_
  refine sl_as rfl rfl rfl ?_
  refine sl_nil ?_
  refine sw_seq ?_
  refine sw_seq ?_
  refine sl_region ?_
  refine sl_mv rfl rfl rfl ?_
  first
    | refine sl_len rfl rfl rfl ⟨_, u_37⟩ ?_
    | refine sl_len_sl rfl rfl rfl ⟨_, u_37⟩ ?_
    | refine sl_len_w _ rfl rfl rfl ⟨_, u_37⟩ ?_
  refine sl_bin rfl rfl rfl rfl rfl ?_
  refine sl_nil ?_
  refine sw_cond rfl (fun h0 => ?_) (fun h0 => ?_)
  · have h0' := of_decide_eq_true h0
    simp only [List.length_map] at h0'
    refine sw_seq ?_
    refine sl_region ?_
    refine sl_as rfl rfl rfl ?_
    refine sl_nil ?_
    refine sw_ret ⟨rfl, _, _, res_one rfl rfl, ?_, ⟨congrArg (fun b => D.val (.bool b)) (by rw [lightL, decide_eq_false (by omega), Bool.false_and]), rfl⟩⟩
    repeat constructor
  have h0' := of_decide_eq_false h0
  simp only [List.length_map] at h0'
  refine sw_skip ?_
  refine sw_seq ?_
  refine sw_seq ?_
  refine sl_region ?_
  refine sl_as rfl rfl rfl ?_
  refine sl_nil ?_
  refine sw_block ?_
  refine sw_loopw (fun nX sX δX σX => ∃ (i : Nat), (l.length - i) = nX ∧ sX = ⟨41, (.cons 0 (.val (.list (l.map ptV))) (.cons 3 (.val (.int .i64 (i : Int))) .nil))⟩ ∧ δX = [] ∧ σX = σ ∧ (i ≤ l.length) ∧ (∀ p ∈ l.take i, lightP p = true)) ?_ ?_
  · refine ⟨_, _, _, ?_, ?_, 0, rfl, rfl, rfl, rfl, (Nat.zero_le _), (by simp)⟩
    · exact ⟨rfl, by repeat constructor⟩
    · repeat constructor
  rintro nX sX δX σX ⟨i, rfl, rfl, rfl, rfl, hi0, hall⟩
  refine sw_seq ?_
  refine sw_seq ?_
  refine sl_region ?_
  refine sl_mv rfl rfl rfl ?_
  refine sl_mv rfl rfl rfl ?_
  first
    | refine sl_len rfl rfl rfl ⟨_, u_37⟩ ?_
    | refine sl_len_sl rfl rfl rfl ⟨_, u_37⟩ ?_
    | refine sl_len_w _ rfl rfl rfl ⟨_, u_37⟩ ?_
  refine sl_bin rfl rfl rfl rfl rfl ?_
  refine sl_nil ?_
  refine sw_cond rfl (fun hi => ?_) (fun hi => ?_)
  · have hi : i < l.length := by simpa using hi
    have hm := List.getElem_mem hi
    refine sw_skip ?_
    refine sw_seq ?_
    refine sw_block ?_
    refine sw_seq ?_
    refine sw_seq ?_
    refine sl_region ?_
    refine sl_mv rfl rfl rfl ?_
    refine sl_mv rfl rfl rfl ?_
    refine sl_indexAddr' rfl rfl rfl rfl u_37 sz_40 (by omega) (idx_map hi) rfl ?_
    first
      | refine sl_fieldAddr_ptr rfl rfl rfl fo_40_1 ?_
      | refine sl_fieldAddr_rp rfl rfl rfl fo_40_1 ?_
      | refine sl_fieldAddr_ref rfl rfl rfl fo_40_1 ?_
    first
      | refine sl_load_rp1 rfl rfl rfl ag_38 rfl ?_
      | refine sl_load_blk1 rfl rfl rfl ag_38 (by repeat constructor) rfl ?_
    first
      | refine sl_len rfl rfl rfl ⟨_, u_38⟩ ?_
      | refine sl_len_sl rfl rfl rfl ⟨_, u_38⟩ ?_
      | refine sl_len_w _ rfl rfl rfl ⟨_, u_38⟩ ?_
    refine sl_bin rfl rfl rfl rfl rfl ?_
    refine sl_nil ?_
    refine sw_cond rfl (fun h1 => ?_) (fun h1 => ?_)
    · have h1' := of_decide_eq_true h1
      simp only [List.length_map] at h1'
      refine sw_seq ?_
      refine sl_region ?_
      refine sl_as rfl rfl rfl ?_
      refine sl_nil ?_
      refine sw_ret ⟨rfl, _, _, res_one rfl rfl, ?_, ⟨light_no hm (fun e => by have := (lightP_iff.mp e).1; omega), rfl⟩⟩
      repeat constructor
    have h1' := of_decide_eq_false h1
    simp only [List.length_map] at h1'
    obtain ⟨τ, hτ⟩ : ∃ τ, τ = σX := ⟨_, rfl⟩
    subst hτ
    refine sw_skip ?_
    refine sw_seq ?_
    refine sl_region ?_
    refine sl_as rfl rfl rfl ?_
    refine sl_nil ?_
    refine sw_block ?_
    refine sw_loopw (fun nX sX δX σX => ∃ (j : Nat), ((l[i]).cells.length - j) = nX ∧ sX = ⟨41, (.cons 0 (.val (.list (l.map ptV))) (.cons 3 (.val (.int .i64 (i : Int))) (.cons 4 (.val (.int .i64 (j : Int))) .nil)))⟩ ∧ δX = [] ∧ σX = τ ∧ (j ≤ (l[i]).cells.length) ∧ (∀ x ∈ (l[i]).cells.take j, x.length ≤ 50)) ?_ ?_
    · refine ⟨_, _, _, ?_, ?_, 0, rfl, rfl, rfl, rfl, (Nat.zero_le _), (by simp)⟩
      · exact ⟨rfl, by repeat constructor⟩
      · repeat constructor
    rintro nX sX δX σX ⟨j, rfl, rfl, rfl, rfl, hj0, hsh⟩
    refine sw_seq ?_
    refine sw_seq ?_
    refine sl_region ?_
    refine sl_mv rfl rfl rfl ?_
    refine sl_mv rfl rfl rfl ?_
    refine sl_mv rfl rfl rfl ?_
    refine sl_indexAddr' rfl rfl rfl rfl u_37 sz_40 (by omega) (idx_map hi) rfl ?_
    first
      | refine sl_fieldAddr_ptr rfl rfl rfl fo_40_1 ?_
      | refine sl_fieldAddr_rp rfl rfl rfl fo_40_1 ?_
      | refine sl_fieldAddr_ref rfl rfl rfl fo_40_1 ?_
    first
      | refine sl_load_rp1 rfl rfl rfl ag_38 rfl ?_
      | refine sl_load_blk1 rfl rfl rfl ag_38 (by repeat constructor) rfl ?_
    first
      | refine sl_len rfl rfl rfl ⟨_, u_38⟩ ?_
      | refine sl_len_sl rfl rfl rfl ⟨_, u_38⟩ ?_
      | refine sl_len_w _ rfl rfl rfl ⟨_, u_38⟩ ?_
    refine sl_bin rfl rfl rfl rfl rfl ?_
    refine sl_nil ?_
    refine sw_cond rfl (fun hj => ?_) (fun hj => ?_)
    · have hj : j < (l[i]).cells.length := by simpa using hj
      refine sw_skip ?_
      refine sw_seq ?_
      refine sw_block ?_
      refine sw_seq ?_
      refine sl_region ?_
      refine sl_mv rfl rfl rfl ?_
      refine sl_mv rfl rfl rfl ?_
      refine sl_indexAddr' rfl rfl rfl rfl u_37 sz_40 (by omega) (idx_map hi) rfl ?_
      first
        | refine sl_fieldAddr_ptr rfl rfl rfl fo_40_1 ?_
        | refine sl_fieldAddr_rp rfl rfl rfl fo_40_1 ?_
        | refine sl_fieldAddr_ref rfl rfl rfl fo_40_1 ?_
      first
        | refine sl_load_rp1 rfl rfl rfl ag_38 rfl ?_
        | refine sl_load_blk1 rfl rfl rfl ag_38 (by repeat constructor) rfl ?_
      refine sl_mv rfl rfl rfl ?_
      refine sl_indexAddr' rfl rfl rfl rfl u_38 sz_9 (by omega) (idx_map hj) rfl ?_
      first
        | refine sl_load_rp1 rfl rfl rfl ag_9 rfl ?_
        | refine sl_load_blk1 rfl rfl rfl ag_9 (by repeat constructor) rfl ?_
      refine sl_len_str rfl rfl rfl u_9 ?_
      refine sl_bin rfl rfl rfl rfl rfl ?_
      refine sl_nil ?_
      refine sw_cond rfl (fun h2 => ?_) (fun h2 => ?_)
      · have h2' := of_decide_eq_true h2
        refine sw_seq ?_
        refine sl_region ?_
        refine sl_as rfl rfl rfl ?_
        refine sl_nil ?_
        refine sw_ret ⟨rfl, _, _, res_one rfl rfl, ?_, ⟨light_no hm (fun e => by have := (lightP_iff.mp e).2 _ (List.getElem_mem hj); omega), rfl⟩⟩
        repeat constructor
      have h2' := of_decide_eq_false h2
      refine sw_skip ?_
      refine sl_region ?_
      refine sl_mv rfl rfl rfl ?_
      first
        | refine sl_inc rfl rfl rfl rfl (by omega) ?_
        | refine sl_add rfl rfl rfl rfl (by constructor <;> omega) ?_
        | refine sl_bin rfl rfl rfl rfl rfl ?_
      refine sl_as rfl rfl rfl ?_
      refine sl_nil ?_
      refine ⟨_, by omega, _, _, ?_, ?_, j + 1, rfl, rfl, rfl, rfl, (by omega), (short_next hj hsh (by omega))⟩
      · exact ⟨rfl, by repeat constructor⟩
      · repeat constructor
    have hj : j = (l[i]).cells.length := by have := of_decide_eq_false hj; simp only [List.length_map] at this; omega
    have hsh : ∀ x ∈ (l[i]).cells, x.length ≤ 50 := by rw [hj, List.take_length] at hsh; exact hsh
    refine sw_exit ?_
    refine sl_region ?_
    refine sl_mv rfl rfl rfl ?_
    first
      | refine sl_inc rfl rfl rfl rfl (by omega) ?_
      | refine sl_add rfl rfl rfl rfl (by constructor <;> omega) ?_
      | refine sl_bin rfl rfl rfl rfl rfl ?_
    refine sl_as rfl rfl rfl ?_
    refine sl_nil ?_
    refine ⟨_, by omega, _, _, ?_, ?_, i + 1, rfl, rfl, rfl, rfl, (by omega), (light_next hi hall (lightP_iff.mpr ⟨by omega, hsh⟩))⟩
    · exact ⟨rfl, by repeat constructor⟩
    · repeat constructor
  have hi : i = l.length := by have := of_decide_eq_false hi; simp only [List.length_map] at this; omega
  refine sw_exit ?_
  refine sw_seq ?_
  refine sl_region ?_
  refine sl_as rfl rfl rfl ?_
  refine sl_nil ?_
  refine sw_ret ⟨rfl, _, _, res_one rfl rfl, ?_, ⟨congrArg (fun b => D.val (.bool b)) (lightL_iff.mpr ⟨by omega, by rw [hi, List.take_length] at hall; exact hall⟩).symm, rfl⟩⟩
  repeat constructor

/-! ### The contracts, what is owned told last -/
def Fit (p : Pt) : Prop := p.cells.length ≤ 1000 ∧ ∀ x ∈ p.cells, x.length ≤ 1000
theorem Fit.of_light {p : Pt} (h : lightP p = true) : Fit p := by
  obtain ⟨h1, h2⟩ := lightP_iff.mp h
  exact ⟨by omega, fun x hx => by have := h2 x hx; omega⟩
def Fits (l : List Pt) : Prop := l.length ≤ 1000 ∧ ∀ p ∈ l, p.cells.length ≤ 1000
theorem leC (a b : Pt) (ha : a.cells.length ≤ 1000000) (hb : b.cells.length ≤ 1000000) (σ : List Chunk) : FSpec Try.prog 19 [.val (ptV a), .val (ptV b)] σ (fun d σ' => d = .val (.bool (leqP a b)) ∧ σ' = σ) := ple_ok a b σ ha hb
theorem rleC (a b : Pt) (ha : a.cells.length ≤ 1000000) (hb : b.cells.length ≤ 1000000) (σ : List Chunk) : FSpec Try.prog 20 [.val (ptV a), .val (ptV b)] σ (fun d σ' => d = .val (.bool (leqP a b)) ∧ σ' = σ) := rple_ok a b σ ha hb
theorem eqC (a b : Pt) (ha : a.cells.length ≤ 1000000) (σ : List Chunk) : FSpec Try.prog 16 [.val (ptV a), .val (ptV b)] σ (fun d σ' => d = .val (.bool (decide (a = b))) ∧ σ' = σ) := hpt_ok a b σ ha
theorem joinC (l : List Pt) (p : Pt) (e : joinP l = p) (h : Fits l) (σ : List Chunk) : FSpec Try.prog 17 [.val (.list (l.map ptV))] σ (fun d σ' => d = .val (ptV p) ∧ σ' = σ) := e ▸ pjoin_ok l σ h.1 h.2
theorem rjoinC (l : List Pt) (p : Pt) (e : joinP l = p) (h : Fits l) (σ : List Chunk) : FSpec Try.prog 18 [.val (.list (l.map ptV))] σ (fun d σ' => d = .val (ptV p) ∧ σ' = σ) := e ▸ rpjoin_ok l σ h.1 h.2
theorem rptsC (p q : Pt) (e : nmP p = q) (h : p.cells.length ≤ 1000000) (σ : List Chunk) : FSpec Try.prog 15 [.val (ptV p)] σ (fun d σ' => d = .val (ptV q) ∧ σ' = σ) := e ▸ rpts_ok p σ h
theorem toC (l m : List Txt) (e : normL l = m) (h : l.length ≤ 1000000) (σ : List Chunk) : FSpec Try.prog 27 [.val (.list (l.map strV))] σ (fun d σ' => d = .val (ptV ⟨false, m⟩) ∧ σ' = σ) := e ▸ pto_ok l σ h
theorem anyC (l m : List Txt) (e : normL l = m) (h : l.length ≤ 1000000) (σ : List Chunk) : FSpec Try.prog 28 [.val (.list (l.map strV))] σ (fun d σ' => d = .val (ptV ⟨true, m⟩) ∧ σ' = σ) := e ▸ pany_ok l σ h
theorem noC (p : Pt) (m : List Txt) (e : normL p.cells = m) (h : p.cells.length ≤ 1000000) (σ : List Chunk) : FSpec Try.prog 23 [.val (ptV p)] σ (fun d σ' => d = .val (ptV ⟨false, m⟩) ∧ σ' = σ) := e ▸ pnonull_ok p σ h
theorem textC (p : Pt) (h : Fit p) (σ : List Chunk) : FSpec Try.prog 25 [.val (ptV p)] σ (fun d σ' => d = .val (.str (textP p)) ∧ σ' = σ) := ptext_ok p σ h.1 h.2
theorem rtextC (p : Pt) (h : Fit p) (σ : List Chunk) : FSpec Try.prog 26 [.val (ptV p)] σ (fun d σ' => d = .val (.str (textP p)) ∧ σ' = σ) := rptext_ok p σ h.1 h.2

/-! ### What is known -/
def exA : Txt := [97]
def exB : Txt := [98]
theorem ex_ab : normL [exB, exA, exB] = [exA, exB] := strict_ext (normL_strict _) (by unfold Strict; decide) fun x => by
  rw [mem_normL]; simp only [List.mem_cons, List.mem_nil_iff, or_false]
  constructor
  · rintro (h | h | h) <;> simp [h]
  · rintro (h | h) <;> simp [h]
theorem ex_ba : normL [exB, exA] = [exA, exB] := strict_ext (normL_strict _) (by unfold Strict; decide) fun x => by
  rw [mem_normL]; simp only [List.mem_cons, List.mem_nil_iff, or_false]
  constructor
  · rintro (h | h) <;> simp [h]
  · rintro (h | h) <;> simp [h]
theorem ex_strict : Strict [exA, exB] := by unfold Strict; decide
theorem ex_a : normL [exA] = [exA] := normL_of_strict (by unfold Strict; decide)
theorem ex_join : joinP [⟨true, []⟩, ⟨false, [exA, exB]⟩] = ⟨true, [exA, exB]⟩ := by
  unfold joinP
  rw [show allCells [⟨true, []⟩, ⟨false, [exA, exB]⟩] = [exA, exB] from rfl, normL_of_strict ex_strict]; rfl
theorem ex_text : textP ⟨true, [exA, exB]⟩ = [123, 110, 117, 108, 108, 44, 97, 44, 98, 125] := by
  unfold textP
  rw [normL_of_strict ex_strict]; rfl

theorem known14_ok (σ : List Chunk) : FSpec Try.prog 13 [] σ (fun d σ' => d = .val (.bool true) ∧ σ' = σ) := by
  refine spec_of_sw Try.func13 rfl ?_
  refine sw_seq ?_
  refine sl_region ?_
  refine sl_as rfl rfl rfl ?_
  refine sl_nil ?_
  refine sw_seq ?_
  refine sl_region ?_
  refine sl_callp rfl rfl cal_29 (pnull_ok) ?_ ?_
  · repeat constructor
  refine sl_bs1 rfl rfl (.cons rfl (.cons rfl (.cons rfl .nil))) u_38 sz_9 zs_9 (by decide) rfl rfl rfl rfl ?_
  refine sl_callp rfl rfl cal_27 ((toC [exB, exA, exB] [exA, exB] ex_ab (by decide))) ?_ ?_
  · repeat constructor
  refine sl_bsn ([ptV ⟨true, []⟩, ptV ⟨false, [exA, exB]⟩]) rfl rfl (.cons rfl (.cons rfl .nil)) u_37 sz_40 zs_40 (by decide) rfl rfl rfl (SzI.get (by repeat constructor)) ?_
  refine sl_callp rfl rfl cal_17 ((joinC [⟨true, []⟩, ⟨false, [exA, exB]⟩] ⟨true, [exA, exB]⟩ ex_join ⟨by decide, by decide⟩)) ?_ ?_
  · repeat constructor
  refine sl_alloc rfl rfl zd_40 (fun b1 => ?_)
  refine sl_stp rfl rfl rfl rfl sz_40 rfl rfl rfl (by repeat constructor) (Nat.le_of_ble_eq_true rfl) ?_
  refine sl_nil ?_
  refine sw_seq ?_
  refine sw_fz 1 rfl rfl (by repeat constructor) ?_
  refine sa_start [] mixed ?_
  refine sa_take 0 rfl rfl (by kernel_rfl) .nil (pu_load_rpn rfl rfl ag_40 sz_40 (Nat.le_of_ble_eq_true rfl)) ?_
  refine sa_one 1 (by kernel_rfl) rfl ?_
  refine sl_callp rfl rfl cal_25 ((textC ⟨true, [exA, exB]⟩ ⟨by decide, by decide⟩)) ?_ ?_
  · repeat constructor
  refine sl_nil ⟨.nil, ?_⟩
  refine sa_take 2 rfl rfl (by kernel_rfl) .nil (pu_str rfl rfl rfl rfl) ?_
  refine sa_set 9 (.val (.bool true)) (val_tt (by rw [ex_text]; rfl)) ?_
  refine sa_take 3 rfl rfl (by kernel_rfl) .nil (pu_mv rfl rfl) ?_
  refine sa_one 4 (by kernel_rfl) rfl ?_
  refine sl_guard_y rfl rfl rfl (rfl) ?_
  refine sl_bs1 rfl rfl (.cons rfl .nil) u_38 sz_9 zs_9 (by decide) rfl rfl rfl rfl ?_
  refine sl_nil ⟨.nil, ?_⟩
  refine sa_one 5 (by kernel_rfl) rfl ?_
  refine sl_guard_y rfl rfl rfl (rfl) ?_
  refine sl_callp rfl rfl cal_27 ((toC [exA] [exA] ex_a (by decide))) ?_ ?_
  · repeat constructor
  refine sl_nil ⟨.nil, ?_⟩
  refine sa_one 6 (by kernel_rfl) rfl ?_
  refine sl_guard_y rfl rfl rfl (rfl) ?_
  refine sl_callp rfl rfl cal_24 ((ponly_ok ⟨false, [exA]⟩)) ?_ ?_
  · repeat constructor
  refine sl_nil ⟨.nil, ?_⟩
  refine sa_one 7 (by kernel_rfl) rfl ?_
  refine sl_guard_y rfl rfl rfl (rfl) ?_
  refine sl_callp rfl rfl cal_21 ((pempty_ok ⟨false, []⟩)) ?_ ?_
  · repeat constructor
  refine sl_nil ⟨.nil, ?_⟩
  refine sa_set 14 (.val (.bool true)) (val_tt rfl) ?_
  refine sa_take 8 rfl rfl (by kernel_rfl) .nil (pu_pk_t rfl rfl (rfl) rfl) ?_
  refine sa_take 9 rfl rfl (by kernel_rfl) .nil (pu_mv rfl rfl) ?_
  refine sa_take_y 10 rfl rfl rfl rfl (rfl) (by kernel_rfl) .nil (pu_load_rpn rfl rfl ag_40 sz_40 (Nat.le_of_ble_eq_true rfl)) ?_
  apply sa_conf [.p 11 (some 18) [] _, .p 12 (some 19) [] _] (I := [(11, []), (12, [])]) (nT := 2) rfl rfl rfl (by kernel_rfl) .nil
  · refine (.cons ?_ (.cons ?_ .nil))
    · apply StepOk.p
      iterate 3 rfl
      intro β σX hσX
      refine sl_guard_y rfl rfl rfl (rfl) ?_
      refine sl_callp rfl rfl cal_23 ((noC ⟨true, [exA, exB]⟩ [exA, exB] (normL_of_strict ex_strict) (by decide))) ?_ ?_
      · repeat constructor
      exact sl_nil ⟨rfl, rfl, rfl, rfl⟩
    · apply StepOk.p
      iterate 3 rfl
      intro β σX hσX
      refine sl_guard_y rfl rfl rfl (rfl) ?_
      refine sl_bs1 rfl rfl (.cons rfl (.cons rfl .nil)) u_38 sz_9 zs_9 (by decide) rfl rfl rfl rfl ?_
      exact sl_nil ⟨rfl, rfl, rfl, rfl⟩
  refine contT_p (contT_p (contT_nil ?_))
  refine sa_one 13 (by kernel_rfl) rfl ?_
  refine sl_guard_y rfl rfl rfl (rfl) ?_
  refine sl_callp rfl rfl cal_27 ((toC [exA, exB] [exA, exB] (normL_of_strict ex_strict) (by decide))) ?_ ?_
  · repeat constructor
  refine sl_nil ⟨.nil, ?_⟩
  refine sa_one 14 (by kernel_rfl) rfl ?_
  refine sl_guard_y rfl rfl rfl (rfl) ?_
  refine sl_callp rfl rfl cal_16 ((eqC ⟨false, [exA, exB]⟩ ⟨false, [exA, exB]⟩ (by decide))) ?_ ?_
  · repeat constructor
  refine sl_nil ⟨.nil, ?_⟩
  refine sa_set 21 (.val (.bool true)) (val_tt (by decide)) ?_
  refine sa_take 15 rfl rfl (by kernel_rfl) .nil (pu_pk_t rfl rfl (rfl) rfl) ?_
  refine sa_take 16 rfl rfl (by kernel_rfl) .nil (pu_mv rfl rfl) ?_
  refine sa_take_y 19 rfl rfl rfl rfl (rfl) (by kernel_rfl) .nil (pu_load_rpn rfl rfl ag_40 sz_40 (Nat.le_of_ble_eq_true rfl)) ?_
  refine sa_one 17 (by kernel_rfl) rfl ?_
  refine sl_guard_y rfl rfl rfl (rfl) ?_
  refine sl_bs1 rfl rfl (.cons rfl (.cons rfl .nil)) u_38 sz_9 zs_9 (by decide) rfl rfl rfl rfl ?_
  refine sl_nil ⟨.nil, ?_⟩
  refine sa_one 18 (by kernel_rfl) rfl ?_
  refine sl_guard_y rfl rfl rfl (rfl) ?_
  refine sl_callp rfl rfl cal_28 ((anyC [exB, exA] [exA, exB] ex_ba (by decide))) ?_ ?_
  · repeat constructor
  refine sl_nil ⟨.nil, ?_⟩
  refine sa_one 20 (by kernel_rfl) rfl ?_
  refine sl_guard_y rfl rfl rfl (rfl) ?_
  refine sl_callp rfl rfl cal_16 ((eqC ⟨true, [exA, exB]⟩ ⟨true, [exA, exB]⟩ (by decide))) ?_ ?_
  · repeat constructor
  refine sl_nil ⟨.nil, ?_⟩
  refine sa_set 27 (.val (.bool true)) (val_tt (by decide)) ?_
  refine sa_take 21 rfl rfl (by kernel_rfl) .nil (pu_pk_t rfl rfl (rfl) rfl) ?_
  refine sa_take 22 rfl rfl (by kernel_rfl) .nil (pu_mv rfl rfl) ?_
  refine sa_take_y 24 rfl rfl rfl rfl (rfl) (by kernel_rfl) .nil (pu_load_rpn rfl rfl ag_40 sz_40 (Nat.le_of_ble_eq_true rfl)) ?_
  refine sa_one 23 (by kernel_rfl) rfl ?_
  refine sl_guard_y rfl rfl rfl (rfl) ?_
  refine sl_callp rfl rfl cal_29 (pnull_ok) ?_ ?_
  · repeat constructor
  refine sl_nil ⟨.nil, ?_⟩
  refine sa_one 25 (by kernel_rfl) rfl ?_
  refine sl_guard_y rfl rfl rfl (rfl) ?_
  refine sl_callp rfl rfl cal_19 ((leC ⟨true, []⟩ ⟨true, [exA, exB]⟩ (by decide) (by decide))) ?_ ?_
  · repeat constructor
  refine sl_nil ⟨.nil, ?_⟩
  refine sa_set 32 (.val (.bool true)) (val_tt rfl) ?_
  refine sa_take 26 rfl rfl (by kernel_rfl) .nil (pu_pk_t rfl rfl (rfl) rfl) ?_
  refine sa_one 27 (by kernel_rfl) rfl ?_
  refine sl_as rfl rfl rfl ?_
  refine sl_nil ⟨.nil, ?_⟩
  refine sa_done (by kernel_rfl) ?_
  refine sw_ret ⟨rfl, _, _, res_one rfl rfl, ?_, ⟨rfl, rfl⟩⟩
  repeat constructor

end Go.Proofs.Ytipacoopapjdpaa

/- Walks: printed by a program of this session out of its script PtsH. -/
namespace Go.Proofs.Ytipacoopapjdpaa
set_option linter.unusedVariables false
set_option linter.unusedSimpArgs false
set_option maxRecDepth 4000
set_option maxHeartbeats 4000000
open Go Go.RowKit SL


theorem self_tt {b : Bool} : (b == b) = true := beq_self_eq_true b
theorem dec_self (p : Pt) : decide (p = p) = true := decide_eq_true rfl
theorem fits_of {l : List Pt} (h : lightL l = true) : Fits l := by
  obtain ⟨h1, h2⟩ := lightL_iff.mp h
  exact ⟨by omega, fun p hp => (Fit.of_light (h2 p hp)).1⟩
theorem join_nn (l : List Txt) : joinP [⟨true, []⟩, ⟨false, normL l⟩] = ⟨true, normL l⟩ := by
  unfold joinP
  rw [show allCells [⟨true, []⟩, ⟨false, normL l⟩] = normL l by simp [allCells], normL_of_strict (normL_strict l)]; rfl

theorem two_fit {p q : Pt} {c : Nat} (hp : p.cells.length ≤ c) (hq : q.cells.length ≤ c) : ∀ x ∈ [p, q], x.cells.length ≤ c := fun x hx => by
  rcases List.mem_cons.mp hx with rfl | hx
  · exact hp
  · rw [List.mem_singleton.mp hx]; exact hq

/-- PtsTells. -/
theorem ptsTells_ok (l : List Pt) (a b : Pt) : FSpec Try.prog 4 [.val (.list (l.map ptV)), .val (ptV a), .val (ptV b)] [] (fun d σ' => d = .val (.bool true) ∧ σ' = []) := by
  refine spec_of_sw Try.func4 rfl ?_
  refine sw_seq ?_
  refine sl_region ?_
  refine sl_bx_imm rfl rfl rfl rfl rfl ?_
  refine sl_bx_imm rfl rfl rfl rfl rfl ?_
  refine sl_as rfl rfl rfl ?_
  refine sl_nil ?_
  refine sw_seq ?_
  refine sw_seq ?_
  refine sl_region ?_
  refine sl_callp rfl rfl cal_13 (known14_ok) ?_ ?_
  · repeat constructor
  refine sl_not rfl rfl rfl ?_
  refine sl_nil ?_
  refine sw_false rfl (rfl) ?_
  refine sw_skip ?_
  refine sw_seq ?_
  refine sw_seq ?_
  refine sl_region ?_
  refine sl_mv rfl rfl rfl ?_
  refine sl_callp rfl rfl cal_14 (light_ok l) ?_ ?_
  · repeat constructor
  refine sl_not rfl rfl rfl ?_
  refine sl_mv rfl rfl rfl ?_
  refine sl_case_at 14 rfl (fun g1 => ?_) (fun g1 => ?_)
  · refine sl_guard_n rfl rfl rfl g1 ?_
    refine sl_guard_n rfl rfl rfl g1 ?_
    refine sl_guard_n rfl rfl rfl g1 ?_
    refine sl_guard_n rfl rfl rfl g1 ?_
    refine sl_guard_n rfl rfl rfl g1 ?_
    refine sl_pk_t rfl rfl rfl g1 rfl ?_
    refine sl_nil ?_
    refine sw_true rfl (rfl) ?_
    refine sw_seq ?_
    refine sl_region ?_
    refine sl_as rfl rfl rfl ?_
    refine sl_nil ?_
    refine sw_ret ⟨rfl, _, _, res_one rfl rfl, ?_, ⟨rfl, rfl⟩⟩
    repeat constructor
  have hl : lightL l = true := by simpa using g1
  refine sl_guard_y rfl rfl rfl g1 ?_
  first
    | refine sl_load_rpn rfl rfl rfl ag_40 sz_40 (Nat.le_of_ble_eq_true rfl) ?_
    | refine sl_load_blkn rfl rfl rfl ag_40 sz_40 (by repeat constructor) (Nat.le_of_ble_eq_true rfl) ?_
    | refine sl_load_ref rfl rfl rfl ag_40 sz_40 (Nat.le_of_ble_eq_true rfl) ?_
  refine sl_guard_y rfl rfl rfl g1 ?_
  first
    | refine sl_load_rpn rfl rfl rfl ag_40 sz_40 (Nat.le_of_ble_eq_true rfl) ?_
    | refine sl_load_blkn rfl rfl rfl ag_40 sz_40 (by repeat constructor) (Nat.le_of_ble_eq_true rfl) ?_
    | refine sl_load_ref rfl rfl rfl ag_40 sz_40 (Nat.le_of_ble_eq_true rfl) ?_
  refine sl_guard_y rfl rfl rfl g1 ?_
  refine sl_bsn ([ptV a, ptV b]) rfl rfl (.cons rfl (.cons rfl .nil)) u_37 sz_40 zs_40 (by decide) rfl rfl rfl (SzI.get (by repeat constructor)) ?_
  refine sl_guard_y rfl rfl rfl g1 ?_
  refine sl_callp rfl rfl cal_14 (light_ok [a, b]) ?_ ?_
  · repeat constructor
  refine sl_guard_y rfl rfl rfl g1 ?_
  refine sl_not rfl rfl rfl ?_
  refine sl_pk_f rfl rfl rfl g1 rfl ?_
  refine sl_nil ?_
  refine sw_cond rfl (fun g2 => ?_) (fun g2 => ?_)
  · refine sw_seq ?_
    refine sl_region ?_
    refine sl_as rfl rfl rfl ?_
    refine sl_nil ?_
    refine sw_ret ⟨rfl, _, _, res_one rfl rfl, ?_, ⟨rfl, rfl⟩⟩
    repeat constructor
  have hab : lightL [a, b] = true := by simpa using g2
  have ha : Fit a := Fit.of_light ((lightL_iff.mp hab).2 a (by simp))
  have hb : Fit b := Fit.of_light ((lightL_iff.mp hab).2 b (by simp))
  have hf := fits_of hl
  have ha1 : a.cells.length ≤ 1000000 := by have := ha.1; omega
  have hb1 : b.cells.length ≤ 1000000 := by have := hb.1; omega
  have hn1 : (normL a.cells).length ≤ 1000 := Nat.le_trans (normL_len _) ha.1
  obtain ⟨J, hJ⟩ : ∃ J, J = joinP l := ⟨_, rfl⟩
  have hJl : J.cells.length ≤ 1000000 := by
    rw [hJ]
    have h1 := cells_len hf.2 l.length
    rw [List.take_length] at h1
    have h2 := normL_len (allCells l)
    have h3 : l.length * 1000 ≤ 1000 * 1000 := Nat.mul_le_mul hf.1 (Nat.le_refl _)
    show (normL (allCells l)).length ≤ _
    omega
  refine sw_skip ?_
  refine sw_seq ?_
  refine sa_start [] mixed ?_
  refine sa_take 0 rfl rfl (by kernel_rfl) .nil (pu_load_rpn rfl rfl ag_40 sz_40 (Nat.le_of_ble_eq_true rfl)) ?_
  first
    | refine sa_take 2 rfl rfl (by kernel_rfl) .nil (pu_fieldAddr_ptr rfl rfl fo_40_0) ?_
    | refine sa_take 2 rfl rfl (by kernel_rfl) .nil (pu_fieldAddr_rp rfl rfl fo_40_0) ?_
    | refine sa_take 2 rfl rfl (by kernel_rfl) .nil (pu_fieldAddr_ref rfl rfl fo_40_0) ?_
  refine sa_take 3 rfl rfl (by kernel_rfl) .nil (pu_load_rp1 rfl rfl ag_4 rfl) ?_
  refine sa_take 4 rfl rfl (by kernel_rfl) .nil (pu_bd rfl (.cons rfl .nil) bi_40 zd_40 rfl) ?_
  apply sa_conf [.p 1 (some 22) [] _, .n 5 7 [.val (.bool false), .fix []], .n 6 8 [.val (.bool false), .fix []]] (I := [(1, []), (5, []), (6, [])]) (nT := 3) rfl rfl rfl (by kernel_rfl) .nil
  · refine (.cons ?_ (.cons ?_ (.cons ?_ .nil)))
    · apply StepOk.p
      iterate 3 rfl
      intro β σX hσX
      refine sl_callp rfl rfl cal_15 ((rptsC a (nmP a) rfl ha1)) ?_ ?_
      · repeat constructor
      exact sl_nil ⟨rfl, rfl, rfl, rfl⟩
    · refine .n rfl rfl rfl (fun σX => ?_)
      exact sl_alloc rfl rfl zd_40 (fun b => sl_nil ⟨rfl, b, rfl, rfl, rfl⟩)
    · refine .n rfl rfl rfl (fun σX => ?_)
      exact sl_alloc rfl rfl zd_40 (fun b => sl_nil ⟨rfl, b, rfl, rfl, rfl⟩)
  refine contT_p (contT_n fun b7 => contT_n fun b8 => contT_nil ?_)
  refine sa_one 7 (by kernel_rfl) rfl ?_
  refine sl_stp rfl rfl rfl rfl sz_40 rfl rfl rfl (by repeat constructor) (Nat.le_of_ble_eq_true rfl) ?_
  refine sl_nil ⟨.nil, ?_⟩
  refine sa_one 8 (by kernel_rfl) rfl ?_
  refine sl_stp rfl rfl rfl rfl sz_40 rfl rfl rfl (by repeat constructor) (Nat.le_of_ble_eq_true rfl) ?_
  refine sl_nil ⟨.nil, ?_⟩
  refine sa_done (by kernel_rfl) ?_
  refine sw_seq ?_
  refine sl_region ?_
  first
    | refine sl_fieldAddr_ptr rfl rfl rfl fo_40_0 ?_
    | refine sl_fieldAddr_rp rfl rfl rfl fo_40_0 ?_
    | refine sl_fieldAddr_ref rfl rfl rfl fo_40_0 ?_
  refine sl_stp rfl rfl rfl rfl sz_4 rfl rfl rfl (by repeat constructor) (Nat.le_of_ble_eq_true rfl) ?_
  refine sl_nil ?_
  refine sw_seq ?_
  refine sw_fz 7 rfl rfl (by repeat constructor) ?_
  refine sw_fz 8 rfl rfl (by repeat constructor) ?_
  refine sa_start [] mixed ?_
  refine sa_take 0 rfl rfl (by kernel_rfl) .nil (pu_mv rfl rfl) ?_
  refine sa_take 2 rfl rfl (by kernel_rfl) .nil (pu_mv rfl rfl) ?_
  refine sa_one 1 (by kernel_rfl) rfl ?_
  refine sl_callp rfl rfl cal_17 ((joinC l J hJ.symm hf)) ?_ ?_
  · repeat constructor
  refine sl_nil ⟨.nil, ?_⟩
  refine sa_one 3 (by kernel_rfl) rfl ?_
  refine sl_callp rfl rfl cal_18 ((rjoinC l J hJ.symm hf)) ?_ ?_
  · repeat constructor
  refine sl_nil ⟨.nil, ?_⟩
  refine sa_one 4 (by kernel_rfl) rfl ?_
  refine sl_callp rfl rfl cal_16 ((eqC J J hJl)) ?_ ?_
  · repeat constructor
  refine sl_nil ⟨.nil, ?_⟩
  refine sa_set 31 (.val (.bool true)) (val_tt (dec_self _)) ?_
  refine sa_take 5 rfl rfl (by kernel_rfl) .nil (pu_mv rfl rfl) ?_
  refine sa_take_y 6 rfl rfl rfl rfl (rfl) (by kernel_rfl) .nil (pu_load_rpn rfl rfl ag_40 sz_40 (Nat.le_of_ble_eq_true rfl)) ?_
  refine sa_take_y 7 rfl rfl rfl rfl (rfl) (by kernel_rfl) .nil (pu_load_rpn rfl rfl ag_40 sz_40 (Nat.le_of_ble_eq_true rfl)) ?_
  refine sa_take_y 9 rfl rfl rfl rfl (rfl) (by kernel_rfl) .nil (pu_load_rpn rfl rfl ag_40 sz_40 (Nat.le_of_ble_eq_true rfl)) ?_
  refine sa_take_y 10 rfl rfl rfl rfl (rfl) (by kernel_rfl) .nil (pu_load_rpn rfl rfl ag_40 sz_40 (Nat.le_of_ble_eq_true rfl)) ?_
  refine sa_one 8 (by kernel_rfl) rfl ?_
  refine sl_guard_y rfl rfl rfl (rfl) ?_
  refine sl_callp rfl rfl cal_19 ((leC a b ha1 hb1)) ?_ ?_
  · repeat constructor
  refine sl_nil ⟨.nil, ?_⟩
  refine sa_one 11 (by kernel_rfl) rfl ?_
  refine sl_guard_y rfl rfl rfl (rfl) ?_
  refine sl_callp rfl rfl cal_20 ((rleC a b ha1 hb1)) ?_ ?_
  · repeat constructor
  refine sl_nil ⟨.nil, ?_⟩
  refine sa_take_y 12 rfl rfl rfl rfl (rfl) (by kernel_rfl) .nil (pu_bool_eq rfl rfl rfl u_4) ?_
  refine sa_set 39 (.val (.bool true)) (val_tt self_tt) ?_
  refine sa_take 13 rfl rfl (by kernel_rfl) .nil (pu_pk_t rfl rfl (rfl) rfl) ?_
  refine sa_take 14 rfl rfl (by kernel_rfl) .nil (pu_mv rfl rfl) ?_
  refine sa_take_y 15 rfl rfl rfl rfl (rfl) (by kernel_rfl) .nil (pu_load_rpn rfl rfl ag_40 sz_40 (Nat.le_of_ble_eq_true rfl)) ?_
  refine sa_take_y 17 rfl rfl rfl rfl (rfl) (by kernel_rfl) .nil (pu_load_rpn rfl rfl ag_40 sz_40 (Nat.le_of_ble_eq_true rfl)) ?_
  refine sa_one 16 (by kernel_rfl) rfl ?_
  refine sl_guard_y rfl rfl rfl (rfl) ?_
  refine sl_callp rfl rfl cal_21 ((pempty_ok a)) ?_ ?_
  · repeat constructor
  refine sl_nil ⟨.nil, ?_⟩
  refine sa_one 18 (by kernel_rfl) rfl ?_
  refine sl_guard_y rfl rfl rfl (rfl) ?_
  refine sl_callp rfl rfl cal_22 ((rpempty_ok a)) ?_ ?_
  · repeat constructor
  refine sl_nil ⟨.nil, ?_⟩
  refine sa_take_y 19 rfl rfl rfl rfl (rfl) (by kernel_rfl) .nil (pu_bool_eq rfl rfl rfl u_4) ?_
  refine sa_set 46 (.val (.bool true)) (val_tt self_tt) ?_
  refine sa_take 20 rfl rfl (by kernel_rfl) .nil (pu_pk_t rfl rfl (rfl) rfl) ?_
  refine sa_take 21 rfl rfl (by kernel_rfl) .nil (pu_mv rfl rfl) ?_
  refine sa_take_y 22 rfl rfl rfl rfl (rfl) (by kernel_rfl) .nil (pu_load_rpn rfl rfl ag_40 sz_40 (Nat.le_of_ble_eq_true rfl)) ?_
  refine sa_take_y 24 rfl rfl rfl rfl (rfl) (by kernel_rfl) .nil (pu_load_rpn rfl rfl ag_40 sz_40 (Nat.le_of_ble_eq_true rfl)) ?_
  refine sa_one 23 (by kernel_rfl) rfl ?_
  refine sl_guard_y rfl rfl rfl (rfl) ?_
  refine sl_callp rfl rfl cal_23 ((noC a (normL a.cells) rfl ha1)) ?_ ?_
  · repeat constructor
  refine sl_nil ⟨.nil, ?_⟩
  refine sa_one 25 (by kernel_rfl) rfl ?_
  refine sl_guard_y rfl rfl rfl (rfl) ?_
  refine sl_callp rfl rfl cal_16 ((eqC ⟨false, normL a.cells⟩ ⟨false, normL a.cells⟩ (by show (normL a.cells).length ≤ _; omega))) ?_ ?_
  · repeat constructor
  refine sl_nil ⟨.nil, ?_⟩
  refine sa_set 52 (.val (.bool true)) (val_tt (dec_self _)) ?_
  refine sa_take 26 rfl rfl (by kernel_rfl) .nil (pu_pk_t rfl rfl (rfl) rfl) ?_
  refine sa_take 27 rfl rfl (by kernel_rfl) .nil (pu_mv rfl rfl) ?_
  refine sa_take_y 28 rfl rfl rfl rfl (rfl) (by kernel_rfl) .nil (pu_load_rpn rfl rfl ag_40 sz_40 (Nat.le_of_ble_eq_true rfl)) ?_
  refine sa_take_y 30 rfl rfl rfl rfl (rfl) (by kernel_rfl) .nil (pu_load_rpn rfl rfl ag_40 sz_40 (Nat.le_of_ble_eq_true rfl)) ?_
  refine sa_one 29 (by kernel_rfl) rfl ?_
  refine sl_guard_y rfl rfl rfl (rfl) ?_
  refine sl_callp rfl rfl cal_24 ((ponly_ok a)) ?_ ?_
  · repeat constructor
  refine sl_nil ⟨.nil, ?_⟩
  refine sa_one 31 (by kernel_rfl) rfl ?_
  refine sl_guard_y rfl rfl rfl (rfl) ?_
  refine sl_callp rfl rfl cal_16 ((eqC ⟨a.null, []⟩ ⟨a.null, []⟩ (Nat.zero_le _))) ?_ ?_
  · repeat constructor
  refine sl_nil ⟨.nil, ?_⟩
  refine sa_set 58 (.val (.bool true)) (val_tt (dec_self _)) ?_
  refine sa_take 32 rfl rfl (by kernel_rfl) .nil (pu_pk_t rfl rfl (rfl) rfl) ?_
  refine sa_take 33 rfl rfl (by kernel_rfl) .nil (pu_mv rfl rfl) ?_
  refine sa_take_y 34 rfl rfl rfl rfl (rfl) (by kernel_rfl) .nil (pu_load_rpn rfl rfl ag_40 sz_40 (Nat.le_of_ble_eq_true rfl)) ?_
  refine sa_take_y 36 rfl rfl rfl rfl (rfl) (by kernel_rfl) .nil (pu_load_rpn rfl rfl ag_40 sz_40 (Nat.le_of_ble_eq_true rfl)) ?_
  refine sa_one 35 (by kernel_rfl) rfl ?_
  refine sl_guard_y rfl rfl rfl (rfl) ?_
  refine sl_callp rfl rfl cal_25 ((textC a ha)) ?_ ?_
  · repeat constructor
  refine sl_nil ⟨.nil, ?_⟩
  refine sa_one 37 (by kernel_rfl) rfl ?_
  refine sl_guard_y rfl rfl rfl (rfl) ?_
  refine sl_callp rfl rfl cal_26 ((rtextC a ha)) ?_ ?_
  · repeat constructor
  refine sl_nil ⟨.nil, ?_⟩
  refine sa_take_y 38 rfl rfl rfl rfl (rfl) (by kernel_rfl) .nil (pu_str rfl rfl rfl rfl) ?_
  refine sa_set 65 (.val (.bool true)) (val_tt (beq_self_eq_true _)) ?_
  refine sa_take 39 rfl rfl (by kernel_rfl) .nil (pu_pk_t rfl rfl (rfl) rfl) ?_
  refine sa_take 40 rfl rfl (by kernel_rfl) .nil (pu_mv rfl rfl) ?_
  first
    | refine sa_take_y 41 rfl rfl rfl rfl (rfl) (by kernel_rfl) .nil (pu_fieldAddr_ptr rfl rfl fo_40_1) ?_
    | refine sa_take_y 41 rfl rfl rfl rfl (rfl) (by kernel_rfl) .nil (pu_fieldAddr_rp rfl rfl fo_40_1) ?_
    | refine sa_take_y 41 rfl rfl rfl rfl (rfl) (by kernel_rfl) .nil (pu_fieldAddr_ref rfl rfl fo_40_1) ?_
  refine sa_take_y 42 rfl rfl rfl rfl (rfl) (by kernel_rfl) .nil (pu_load_rp1 rfl rfl ag_38 rfl) ?_
  refine sa_take_y 44 rfl rfl rfl rfl (rfl) (by kernel_rfl) .nil (pu_load_rpn rfl rfl ag_40 sz_40 (Nat.le_of_ble_eq_true rfl)) ?_
  refine sa_one 43 (by kernel_rfl) rfl ?_
  refine sl_guard_y rfl rfl rfl (rfl) ?_
  refine sl_callp rfl rfl cal_27 ((toC a.cells (normL a.cells) rfl ha1)) ?_ ?_
  · repeat constructor
  refine sl_nil ⟨.nil, ?_⟩
  refine sa_one 45 (by kernel_rfl) rfl ?_
  refine sl_guard_y rfl rfl rfl (rfl) ?_
  refine sl_callp rfl rfl cal_16 ((eqC ⟨false, normL a.cells⟩ ⟨false, normL a.cells⟩ (by show (normL a.cells).length ≤ _; omega))) ?_ ?_
  · repeat constructor
  refine sl_nil ⟨.nil, ?_⟩
  refine sa_set 72 (.val (.bool true)) (val_tt (dec_self _)) ?_
  refine sa_take 46 rfl rfl (by kernel_rfl) .nil (pu_pk_t rfl rfl (rfl) rfl) ?_
  refine sa_take 47 rfl rfl (by kernel_rfl) .nil (pu_mv rfl rfl) ?_
  first
    | refine sa_take_y 48 rfl rfl rfl rfl (rfl) (by kernel_rfl) .nil (pu_fieldAddr_ptr rfl rfl fo_40_1) ?_
    | refine sa_take_y 48 rfl rfl rfl rfl (rfl) (by kernel_rfl) .nil (pu_fieldAddr_rp rfl rfl fo_40_1) ?_
    | refine sa_take_y 48 rfl rfl rfl rfl (rfl) (by kernel_rfl) .nil (pu_fieldAddr_ref rfl rfl fo_40_1) ?_
  refine sa_take_y 49 rfl rfl rfl rfl (rfl) (by kernel_rfl) .nil (pu_load_rp1 rfl rfl ag_38 rfl) ?_
  refine sa_take_y 51 rfl rfl rfl rfl (rfl) (by kernel_rfl) .nil (pu_bd rfl (.cons rfl .nil) bi_40 zd_40 rfl) ?_
  refine sa_take_y 52 rfl rfl rfl rfl (rfl) (by kernel_rfl) .nil (pu_load_rpn rfl rfl ag_40 sz_40 (Nat.le_of_ble_eq_true rfl)) ?_
  apply sa_conf [.p 50 (some 77) [] _, .p 53 (some 80) [] _] (I := [(50, []), (53, [])]) (nT := 2) rfl rfl rfl (by kernel_rfl) .nil
  · refine (.cons ?_ (.cons ?_ .nil))
    · apply StepOk.p
      iterate 3 rfl
      intro β σX hσX
      refine sl_guard_y rfl rfl rfl (rfl) ?_
      refine sl_callp rfl rfl cal_28 ((anyC a.cells (normL a.cells) rfl ha1)) ?_ ?_
      · repeat constructor
      exact sl_nil ⟨rfl, rfl, rfl, rfl⟩
    · apply StepOk.p
      iterate 3 rfl
      intro β σX hσX
      refine sl_guard_y rfl rfl rfl (rfl) ?_
      refine sl_bsn ([ptV ⟨true, []⟩, ptV ⟨false, normL a.cells⟩]) rfl rfl (.cons rfl (.cons rfl .nil)) u_37 sz_40 zs_40 (by decide) rfl rfl rfl (SzI.get (by repeat constructor)) ?_
      exact sl_nil ⟨rfl, rfl, rfl, rfl⟩
  refine contT_p (contT_p (contT_nil ?_))
  refine sa_one 54 (by kernel_rfl) rfl ?_
  refine sl_guard_y rfl rfl rfl (rfl) ?_
  refine sl_callp rfl rfl cal_18 ((rjoinC [⟨true, []⟩, ⟨false, normL a.cells⟩] ⟨true, normL a.cells⟩ (join_nn _) ⟨by simp, two_fit (Nat.zero_le _) hn1⟩)) ?_ ?_
  · repeat constructor
  refine sl_nil ⟨.nil, ?_⟩
  refine sa_one 55 (by kernel_rfl) rfl ?_
  refine sl_guard_y rfl rfl rfl (rfl) ?_
  refine sl_callp rfl rfl cal_16 ((eqC ⟨true, normL a.cells⟩ ⟨true, normL a.cells⟩ (by show (normL a.cells).length ≤ _; omega))) ?_ ?_
  · repeat constructor
  refine sl_nil ⟨.nil, ?_⟩
  refine sa_set 82 (.val (.bool true)) (val_tt (dec_self _)) ?_
  refine sa_take 56 rfl rfl (by kernel_rfl) .nil (pu_pk_t rfl rfl (rfl) rfl) ?_
  refine sa_one 57 (by kernel_rfl) rfl ?_
  refine sl_as rfl rfl rfl ?_
  refine sl_nil ⟨.nil, ?_⟩
  refine sa_done (by kernel_rfl) ?_
  refine sw_ret ⟨rfl, _, _, res_one rfl rfl, ?_, ⟨rfl, rfl⟩⟩
  repeat constructor

end Go.Proofs.Ytipacoopapjdpaa
