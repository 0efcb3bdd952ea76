/- Merged: the program logic, plain laws and walks (each part's first row says what it is); no conditions of its own. -/
import Derived.Test.YtipacoopapjdpaaL5
import Derived.Test.YtipacoopapjdpaaL3

/- Walks: printed by a program of this session out of its script PtsI. -/
namespace Go.Proofs.Ytipacoopapjdpaa
set_option linter.unusedVariables false
set_option linter.unusedSimpArgs false
set_option maxRecDepth 4000
set_option maxHeartbeats 4000000
open Go Go.RowKit SL


theorem allC_two (a b : Pt) : allCells [a, b] = a.cells ++ b.cells := by simp [allCells]
theorem mem_join {l : List Pt} {x : Txt} : x ∈ (joinP l).cells ↔ ∃ p ∈ l, x ∈ p.cells := by
  show x ∈ normL (allCells l) ↔ _
  rw [mem_normL]; simp [allCells]
theorem join_ext {l m : List Pt} (hn : l.any (·.null) = m.any (·.null)) (hc : ∀ x, (∃ p ∈ l, x ∈ p.cells) ↔ ∃ p ∈ m, x ∈ p.cells) : joinP l = joinP m :=
  eqPt.mpr ⟨hn, strict_ext (normL_strict _) (normL_strict _) fun x => by
    have h1 := mem_join (l := l) (x := x); have h2 := mem_join (l := m) (x := x)
    exact h1.trans ((hc x).trans h2.symm)⟩
theorem join_comm (a b : Pt) : joinP [b, a] = joinP [a, b] := join_ext (by simp [Bool.or_comm]) fun x => by simp [or_comm]
theorem join_assoc (a b c : Pt) : joinP [a, joinP [b, c]] = joinP [joinP [a, b], c] := by
  refine join_ext ?_ fun x => ?_
  · show (a.null || ((b.null || (c.null || false)) || false)) = ((a.null || (b.null || false)) || (c.null || false))
    cases a.null <;> cases b.null <;> cases c.null <;> rfl
  · have h1 : x ∈ (joinP [b, c]).cells ↔ x ∈ b.cells ∨ x ∈ c.cells := by rw [mem_join]; simp
    have h2 : x ∈ (joinP [a, b]).cells ↔ x ∈ a.cells ∨ x ∈ b.cells := by rw [mem_join]; simp
    simp only [List.mem_cons, List.mem_nil_iff, or_false, exists_eq_or_imp, exists_eq_left, h1, h2, or_assoc]
theorem leq_join_l (a b : Pt) : leqP a (joinP [a, b]) = true := leqP_iff.mpr ⟨fun h => by show (a.null || _) = true; rw [h]; rfl, fun x hx => mem_join.mpr ⟨a, by simp, hx⟩⟩
theorem leq_join_r (a b : Pt) : leqP b (joinP [a, b]) = true := leqP_iff.mpr ⟨fun h => by show (a.null || (b.null || false)) = true; rw [h]; simp, fun x hx => mem_join.mpr ⟨b, by simp, hx⟩⟩
theorem leq_join_least {a b c : Pt} (h1 : leqP a c = true) (h2 : leqP b c = true) : leqP (joinP [a, b]) c = true := by
  obtain ⟨n1, c1⟩ := leqP_iff.mp h1
  obtain ⟨n2, c2⟩ := leqP_iff.mp h2
  refine leqP_iff.mpr ⟨fun h => ?_, fun x hx => ?_⟩
  · have h' : (a.null || (b.null || false)) = true := h
    rw [Bool.or_false, Bool.or_eq_true] at h'
    rcases h' with h' | h'
    · exact n1 h'
    · exact n2 h'
  · obtain ⟨p, hp, hxp⟩ := mem_join.mp hx
    simp only [List.mem_cons, List.mem_nil_iff, or_false] at hp
    rcases hp with rfl | rfl
    · exact c1 x hxp
    · exact c2 x hxp
theorem join_parts (a : Pt) : joinP [⟨false, normL a.cells⟩, ⟨a.null, []⟩] = joinP [a] := by
  refine join_ext ?_ fun x => ?_
  · show (false || (a.null || false)) = (a.null || false); cases a.null <;> rfl
  · simp only [List.mem_cons, List.mem_nil_iff, or_false, exists_eq_or_imp, exists_eq_left, mem_normL]
theorem normL_nil : normL [] = [] := List.eq_nil_of_length_eq_zero (by have := normL_len []; simpa using this)
theorem empty_parts (a : Pt) : emptyP a = (emptyP ⟨false, normL a.cells⟩ && emptyP ⟨a.null, []⟩) := by
  unfold emptyP
  have h : (normL a.cells).isEmpty = a.cells.isEmpty := by
    cases hc : a.cells with
    | nil => rw [normL_nil]
    | cons x l =>
      cases hn : normL (x :: l) with
      | nil => exact absurd (mem_normL.mpr (List.mem_cons_self (a := x) (l := l))) (by rw [hn]; simp)
      | cons y m => rfl
  simp only [h]
  cases a.null <;> cases a.cells <;> rfl

theorem fits2 {a b : Pt} (ha : a.cells.length ≤ 100) (hb : b.cells.length ≤ 100) : Fits [a, b] := ⟨by simp, two_fit (by omega) (by omega)⟩
theorem join_small {a b : Pt} {m n : Nat} (ha : a.cells.length ≤ m) (hb : b.cells.length ≤ n) : (joinP [a, b]).cells.length ≤ m + n := by
  have := normL_len (allCells [a, b])
  rw [allC_two, List.length_append] at this
  show (normL (allCells [a, b])).length ≤ _
  rw [allC_two]; omega
theorem not_tt' {b : Bool} (h : b = true) : D.val (.bool (!b)) = D.val (.bool false) := val_ff (by rw [h]; rfl)


/-- PtsLattice. -/
theorem ptsLattice_ok (a b c : Pt) : FSpec Try.prog 5 [.val (ptV a), .val (ptV b), .val (ptV c)] [] (fun d σ' => d = .val (.bool true) ∧ σ' = []) := by
  refine spec_of_sw Try.func5 rfl ?_
  refine sw_seq ?_
  refine sl_region ?_
  refine sl_bx_imm rfl rfl rfl rfl rfl ?_
  refine sl_bx_imm rfl rfl rfl rfl rfl ?_
  refine sl_bx_imm rfl rfl rfl rfl rfl ?_
  refine sl_as rfl rfl rfl ?_
  refine sl_nil ?_
  refine sw_seq ?_
  refine sw_seq ?_
  refine sl_region ?_
  refine sl_callp rfl rfl cal_13 (known14_ok) ?_ ?_
  · repeat constructor
  refine sl_not rfl rfl rfl ?_
  refine sl_nil ?_
  refine sw_false rfl (rfl) ?_
  refine sw_skip ?_
  refine sw_seq ?_
  refine sw_seq ?_
  refine sl_region ?_
  first
    | refine sl_load_rpn rfl rfl rfl ag_40 sz_40 (Nat.le_of_ble_eq_true rfl) ?_
    | refine sl_load_blkn rfl rfl rfl ag_40 sz_40 (by repeat constructor) (Nat.le_of_ble_eq_true rfl) ?_
    | refine sl_load_ref rfl rfl rfl ag_40 sz_40 (Nat.le_of_ble_eq_true rfl) ?_
  first
    | refine sl_load_rpn rfl rfl rfl ag_40 sz_40 (Nat.le_of_ble_eq_true rfl) ?_
    | refine sl_load_blkn rfl rfl rfl ag_40 sz_40 (by repeat constructor) (Nat.le_of_ble_eq_true rfl) ?_
    | refine sl_load_ref rfl rfl rfl ag_40 sz_40 (Nat.le_of_ble_eq_true rfl) ?_
  first
    | refine sl_load_rpn rfl rfl rfl ag_40 sz_40 (Nat.le_of_ble_eq_true rfl) ?_
    | refine sl_load_blkn rfl rfl rfl ag_40 sz_40 (by repeat constructor) (Nat.le_of_ble_eq_true rfl) ?_
    | refine sl_load_ref rfl rfl rfl ag_40 sz_40 (Nat.le_of_ble_eq_true rfl) ?_
  refine sl_bsn ([ptV a, ptV b, ptV c]) rfl rfl (.cons rfl (.cons rfl (.cons rfl .nil))) u_37 sz_40 zs_40 (by decide) rfl rfl rfl (SzI.get (by repeat constructor)) ?_
  refine sl_callp rfl rfl cal_14 (light_ok [a, b, c]) ?_ ?_
  · repeat constructor
  refine sl_not rfl rfl rfl ?_
  refine sl_nil ?_
  refine sw_cond rfl (fun g1 => ?_) (fun g1 => ?_)
  · refine sw_seq ?_
    refine sl_region ?_
    refine sl_as rfl rfl rfl ?_
    refine sl_nil ?_
    refine sw_ret ⟨rfl, _, _, res_one rfl rfl, ?_, ⟨rfl, rfl⟩⟩
    repeat constructor
  have hl : lightL [a, b, c] = true := by simpa using g1
  have ha : a.cells.length ≤ 10 := (lightP_iff.mp ((lightL_iff.mp hl).2 a (by simp))).1
  have hb : b.cells.length ≤ 10 := (lightP_iff.mp ((lightL_iff.mp hl).2 b (by simp))).1
  have hc : c.cells.length ≤ 10 := (lightP_iff.mp ((lightL_iff.mp hl).2 c (by simp))).1
  obtain ⟨J, hJ⟩ : ∃ J, J = joinP [a, b] := ⟨_, rfl⟩
  have hJl : J.cells.length ≤ 20 := by rw [hJ]; exact join_small ha hb
  obtain ⟨K, hK⟩ : ∃ K, K = joinP [J, c] := ⟨_, rfl⟩
  have hKl : K.cells.length ≤ 30 := by rw [hK]; exact join_small hJl hc
  obtain ⟨B, hB⟩ : ∃ B, B = joinP [b, c] := ⟨_, rfl⟩
  have hBl : B.cells.length ≤ 20 := by rw [hB]; exact join_small hb hc
  obtain ⟨A, hA⟩ : ∃ A, A = joinP [a] := ⟨_, rfl⟩
  have hAl : A.cells.length ≤ 10 := by
    rw [hA]; have := normL_len (allCells [a]); show (normL (allCells [a])).length ≤ _; simp [allCells] at this ⊢; omega
  refine sw_skip ?_
  refine sw_seq ?_
  refine sl_region ?_
  first
    | refine sl_load_rpn rfl rfl rfl ag_40 sz_40 (Nat.le_of_ble_eq_true rfl) ?_
    | refine sl_load_blkn rfl rfl rfl ag_40 sz_40 (by repeat constructor) (Nat.le_of_ble_eq_true rfl) ?_
    | refine sl_load_ref rfl rfl rfl ag_40 sz_40 (Nat.le_of_ble_eq_true rfl) ?_
  first
    | refine sl_load_rpn rfl rfl rfl ag_40 sz_40 (Nat.le_of_ble_eq_true rfl) ?_
    | refine sl_load_blkn rfl rfl rfl ag_40 sz_40 (by repeat constructor) (Nat.le_of_ble_eq_true rfl) ?_
    | refine sl_load_ref rfl rfl rfl ag_40 sz_40 (Nat.le_of_ble_eq_true rfl) ?_
  refine sl_bsn ([ptV a, ptV b]) rfl rfl (.cons rfl (.cons rfl .nil)) u_37 sz_40 zs_40 (by decide) rfl rfl rfl (SzI.get (by repeat constructor)) ?_
  refine sl_callp rfl rfl cal_17 ((joinC [a, b] J hJ.symm (fits2 (by omega) (by omega)))) ?_ ?_
  · repeat constructor
  refine sl_alloc rfl rfl zd_40 (fun b7 => ?_)
  refine sl_stp rfl rfl rfl rfl sz_40 rfl rfl rfl (by repeat constructor) (Nat.le_of_ble_eq_true rfl) ?_
  refine sl_nil ?_
  refine sw_seq ?_
  refine sw_seq ?_
  refine sw_fz 7 rfl rfl (by repeat constructor) ?_
  refine sa_start [] mixed ?_
  refine sa_take 0 rfl rfl (by kernel_rfl) .nil (pu_load_rpn rfl rfl ag_40 sz_40 (Nat.le_of_ble_eq_true rfl)) ?_
  refine sa_take 1 rfl rfl (by kernel_rfl) .nil (pu_load_rpn rfl rfl ag_40 sz_40 (Nat.le_of_ble_eq_true rfl)) ?_
  refine sa_take 2 rfl rfl (by kernel_rfl) .nil (pu_load_rpn rfl rfl ag_40 sz_40 (Nat.le_of_ble_eq_true rfl)) ?_
  refine sa_one 3 (by kernel_rfl) rfl ?_
  refine sl_bsn ([ptV b, ptV a]) rfl rfl (.cons rfl (.cons rfl .nil)) u_37 sz_40 zs_40 (by decide) rfl rfl rfl (SzI.get (by repeat constructor)) ?_
  refine sl_nil ⟨.nil, ?_⟩
  refine sa_one 4 (by kernel_rfl) rfl ?_
  refine sl_callp rfl rfl cal_17 ((joinC [b, a] J (by rw [hJ]; exact join_comm a b) (fits2 (by omega) (by omega)))) ?_ ?_
  · repeat constructor
  refine sl_nil ⟨.nil, ?_⟩
  refine sa_one 5 (by kernel_rfl) rfl ?_
  refine sl_callp rfl rfl cal_16 ((eqC J J (by omega))) ?_ ?_
  · repeat constructor
  refine sl_nil ⟨.nil, ?_⟩
  refine sa_take 6 rfl rfl (by kernel_rfl) .nil (pu_not rfl rfl) ?_
  refine sa_set 26 (.val (.bool false)) (not_tt' (dec_self _)) ?_
  refine sa_take 7 rfl rfl (by kernel_rfl) .nil (pu_mv rfl rfl) ?_
  refine sa_take_y 8 rfl rfl rfl rfl (rfl) (by kernel_rfl) .nil (pu_load_rpn rfl rfl ag_40 sz_40 (Nat.le_of_ble_eq_true rfl)) ?_
  refine sa_take_y 9 rfl rfl rfl rfl (rfl) (by kernel_rfl) .nil (pu_load_rpn rfl rfl ag_40 sz_40 (Nat.le_of_ble_eq_true rfl)) ?_
  refine sa_take_y 12 rfl rfl rfl rfl (rfl) (by kernel_rfl) .nil (pu_load_rpn rfl rfl ag_40 sz_40 (Nat.le_of_ble_eq_true rfl)) ?_
  refine sa_take_y 13 rfl rfl rfl rfl (rfl) (by kernel_rfl) .nil (pu_load_rpn rfl rfl ag_40 sz_40 (Nat.le_of_ble_eq_true rfl)) ?_
  refine sa_take_y 14 rfl rfl rfl rfl (rfl) (by kernel_rfl) .nil (pu_load_rpn rfl rfl ag_40 sz_40 (Nat.le_of_ble_eq_true rfl)) ?_
  apply sa_conf [.p 10 (some 30) [] _, .p 11 (some 31) [0] _, .p 15 (some 35) [] _] (I := [(10, []), (11, [0]), (15, [])]) (nT := 3) rfl rfl rfl (by kernel_rfl) .nil
  · refine (.cons ?_ (.cons ?_ (.cons ?_ .nil)))
    · apply StepOk.p
      iterate 3 rfl
      intro β σX hσX
      refine sl_guard_y rfl rfl rfl (rfl) ?_
      refine sl_bsn ([ptV J, ptV c]) rfl rfl (.cons rfl (.cons rfl .nil)) u_37 sz_40 zs_40 (by decide) rfl rfl rfl (SzI.get (by repeat constructor)) ?_
      exact sl_nil ⟨rfl, rfl, rfl, rfl⟩
    · apply StepOk.p
      iterate 3 rfl
      intro β σX hσX
      show SL _ _ _ _ (sput _ (some 30) _) _ _
      refine sl_guard_y rfl rfl rfl (rfl) ?_
      refine sl_callp rfl rfl cal_17 ((joinC [J, c] K hK.symm (fits2 (by omega) (by omega)))) ?_ ?_
      · repeat constructor
      exact sl_nil ⟨rfl, rfl, rfl, rfl⟩
    · apply StepOk.p
      iterate 3 rfl
      intro β σX hσX
      refine sl_guard_y rfl rfl rfl (rfl) ?_
      refine sl_bsn ([ptV b, ptV c]) rfl rfl (.cons rfl (.cons rfl .nil)) u_37 sz_40 zs_40 (by decide) rfl rfl rfl (SzI.get (by repeat constructor)) ?_
      exact sl_nil ⟨rfl, rfl, rfl, rfl⟩
  refine contT_p (contT_p (contT_p (contT_nil ?_)))
  refine sa_one 16 (by kernel_rfl) rfl ?_
  refine sl_guard_y rfl rfl rfl (rfl) ?_
  refine sl_callp rfl rfl cal_17 ((joinC [b, c] B hB.symm (fits2 (by omega) (by omega)))) ?_ ?_
  · repeat constructor
  refine sl_nil ⟨.nil, ?_⟩
  refine sa_one 17 (by kernel_rfl) rfl ?_
  refine sl_guard_y rfl rfl rfl (rfl) ?_
  refine sl_bsn ([ptV a, ptV B]) rfl rfl (.cons rfl (.cons rfl .nil)) u_37 sz_40 zs_40 (by decide) rfl rfl rfl (SzI.get (by repeat constructor)) ?_
  refine sl_nil ⟨.nil, ?_⟩
  refine sa_one 18 (by kernel_rfl) rfl ?_
  refine sl_guard_y rfl rfl rfl (rfl) ?_
  refine sl_callp rfl rfl cal_17 ((joinC [a, B] K (by rw [hK, hJ, hB]; exact join_assoc a b c) (fits2 (by omega) (by omega)))) ?_ ?_
  · repeat constructor
  refine sl_nil ⟨.nil, ?_⟩
  refine sa_one 19 (by kernel_rfl) rfl ?_
  refine sl_guard_y rfl rfl rfl (rfl) ?_
  refine sl_callp rfl rfl cal_16 ((eqC K K (by omega))) ?_ ?_
  · repeat constructor
  refine sl_nil ⟨.nil, ?_⟩
  refine sa_take_y 20 rfl rfl rfl rfl (rfl) (by kernel_rfl) .nil (pu_not rfl rfl) ?_
  refine sa_set 40 (.val (.bool false)) (not_tt' (dec_self _)) ?_
  refine sa_take 21 rfl rfl (by kernel_rfl) .nil (pu_pk_f rfl rfl (rfl) rfl) ?_
  refine sa_take 22 rfl rfl (by kernel_rfl) .nil (pu_mv rfl rfl) ?_
  refine sa_take_y 23 rfl rfl rfl rfl (rfl) (by kernel_rfl) .nil (pu_load_rpn rfl rfl ag_40 sz_40 (Nat.le_of_ble_eq_true rfl)) ?_
  refine sa_take_y 24 rfl rfl rfl rfl (rfl) (by kernel_rfl) .nil (pu_load_rpn rfl rfl ag_40 sz_40 (Nat.le_of_ble_eq_true rfl)) ?_
  refine sa_one 25 (by kernel_rfl) rfl ?_
  refine sl_guard_y rfl rfl rfl (rfl) ?_
  refine sl_callp rfl rfl cal_19 ((leC a J (by omega) (by omega))) ?_ ?_
  · repeat constructor
  refine sl_nil ⟨.nil, ?_⟩
  refine sa_take_y 26 rfl rfl rfl rfl (rfl) (by kernel_rfl) .nil (pu_not rfl rfl) ?_
  refine sa_set 46 (.val (.bool false)) (not_tt' (by rw [hJ]; exact leq_join_l a b)) ?_
  refine sa_take 27 rfl rfl (by kernel_rfl) .nil (pu_pk_f rfl rfl (rfl) rfl) ?_
  refine sa_take 28 rfl rfl (by kernel_rfl) .nil (pu_mv rfl rfl) ?_
  refine sa_take_y 29 rfl rfl rfl rfl (rfl) (by kernel_rfl) .nil (pu_load_rpn rfl rfl ag_40 sz_40 (Nat.le_of_ble_eq_true rfl)) ?_
  refine sa_take_y 30 rfl rfl rfl rfl (rfl) (by kernel_rfl) .nil (pu_load_rpn rfl rfl ag_40 sz_40 (Nat.le_of_ble_eq_true rfl)) ?_
  refine sa_one 31 (by kernel_rfl) rfl ?_
  refine sl_guard_y rfl rfl rfl (rfl) ?_
  refine sl_callp rfl rfl cal_19 ((leC b J (by omega) (by omega))) ?_ ?_
  · repeat constructor
  refine sl_nil ⟨.nil, ?_⟩
  refine sa_take_y 32 rfl rfl rfl rfl (rfl) (by kernel_rfl) .nil (pu_not rfl rfl) ?_
  refine sa_set 52 (.val (.bool false)) (not_tt' (by rw [hJ]; exact leq_join_r a b)) ?_
  refine sa_take 33 rfl rfl (by kernel_rfl) .nil (pu_pk_f rfl rfl (rfl) rfl) ?_
  refine sa_take 34 rfl rfl (by kernel_rfl) .nil (pu_mv rfl rfl) ?_
  refine sa_take_y 35 rfl rfl rfl rfl (rfl) (by kernel_rfl) .nil (pu_load_rpn rfl rfl ag_40 sz_40 (Nat.le_of_ble_eq_true rfl)) ?_
  refine sa_take_y 36 rfl rfl rfl rfl (rfl) (by kernel_rfl) .nil (pu_load_rpn rfl rfl ag_40 sz_40 (Nat.le_of_ble_eq_true rfl)) ?_
  refine sa_one 37 (by kernel_rfl) rfl ?_
  refine sl_guard_y rfl rfl rfl (rfl) ?_
  refine sl_callp rfl rfl cal_19 ((leC a c (by omega) (by omega))) ?_ ?_
  · repeat constructor
  refine sl_nil ⟨.nil, ?_⟩
  refine sa_take_y 38 rfl rfl rfl rfl (rfl) (by kernel_rfl) .nil (pu_mv rfl rfl) ?_
  refine sa_case_at 58 rfl (fun g2 => ?_) (fun g2 => ?_)
  · have k2 : leqP a c = true := g2
    refine sa_take_y 39 rfl rfl rfl rfl g2 (by kernel_rfl) .nil (pu_load_rpn rfl rfl ag_40 sz_40 (Nat.le_of_ble_eq_true rfl)) ?_
    refine sa_take_y 40 rfl rfl rfl rfl g2 (by kernel_rfl) .nil (pu_load_rpn rfl rfl ag_40 sz_40 (Nat.le_of_ble_eq_true rfl)) ?_
    refine sa_one 41 (by kernel_rfl) rfl ?_
    refine sl_guard_y rfl rfl rfl g2 ?_
    refine sl_callp rfl rfl cal_19 ((leC b c (by omega) (by omega))) ?_ ?_
    · repeat constructor
    refine sl_nil ⟨.nil, ?_⟩
    refine sa_take_y 42 rfl rfl rfl rfl (rfl) (by kernel_rfl) .nil (pu_pk_t rfl rfl g2 rfl) ?_
    refine sa_take_y 43 rfl rfl rfl rfl (rfl) (by kernel_rfl) .nil (pu_mv rfl rfl) ?_
    refine sa_case_at 63 rfl (fun g3 => ?_) (fun g3 => ?_)
    · have k3 : leqP b c = true := g3
      refine sa_take_y 44 rfl rfl rfl rfl g3 (by kernel_rfl) .nil (pu_load_rpn rfl rfl ag_40 sz_40 (Nat.le_of_ble_eq_true rfl)) ?_
      refine sa_take_y 45 rfl rfl rfl rfl g3 (by kernel_rfl) .nil (pu_load_rpn rfl rfl ag_40 sz_40 (Nat.le_of_ble_eq_true rfl)) ?_
      refine sa_one 46 (by kernel_rfl) rfl ?_
      refine sl_guard_y rfl rfl rfl g3 ?_
      refine sl_callp rfl rfl cal_19 ((leC J c (by omega) (by omega))) ?_ ?_
      · repeat constructor
      refine sl_nil ⟨.nil, ?_⟩
      refine sa_take_y 47 rfl rfl rfl rfl g3 (by kernel_rfl) .nil (pu_not rfl rfl) ?_
      refine sa_set 67 (.val (.bool false)) (not_tt' (by rw [hJ]; exact leq_join_least k2 k3)) ?_
      refine sa_take_y 48 rfl rfl rfl rfl (rfl) (by kernel_rfl) .nil (pu_pk_t rfl rfl g3 rfl) ?_
      refine sa_take 49 rfl rfl (by kernel_rfl) .nil (pu_pk_f rfl rfl (rfl) rfl) ?_
      refine sa_done (by kernel_rfl) ?_
      refine sw_false rfl (rfl) ?_
      refine sw_skip ?_
      refine sw_seq ?_
      refine sa_start [] mixed ?_
      refine sa_take 0 rfl rfl (by kernel_rfl) .nil (pu_load_rpn rfl rfl ag_40 sz_40 (Nat.le_of_ble_eq_true rfl)) ?_
      refine sa_take 2 rfl rfl (by kernel_rfl) .nil (pu_load_rpn rfl rfl ag_40 sz_40 (Nat.le_of_ble_eq_true rfl)) ?_
      refine sa_take 6 rfl rfl (by kernel_rfl) .nil (pu_load_rpn rfl rfl ag_40 sz_40 (Nat.le_of_ble_eq_true rfl)) ?_
      apply sa_conf [.p 1 (some 71) [] _, .p 3 (some 73) [0] _, .p 4 (some 74) [0, 1] _, .p 5 (some 75) [1, 2] _, .p 7 (some 77) [] _] (I := [(1, []), (3, [0]), (4, [0, 1]), (5, [1, 2]), (7, [])]) (nT := 5) rfl rfl rfl (by kernel_rfl) .nil
      · refine (.cons ?_ (.cons ?_ (.cons ?_ (.cons ?_ (.cons ?_ .nil)))))
        · apply StepOk.p
          iterate 3 rfl
          intro β σX hσX
          refine sl_callp rfl rfl cal_23 ((noC a (normL a.cells) rfl (by omega))) ?_ ?_
          · repeat constructor
          exact sl_nil ⟨rfl, rfl, rfl, rfl⟩
        · apply StepOk.p
          iterate 3 rfl
          intro β σX hσX
          show SL _ _ _ _ (sput _ (some 71) _) _ _
          refine sl_callp rfl rfl cal_24 ((ponly_ok a)) ?_ ?_
          · repeat constructor
          exact sl_nil ⟨rfl, rfl, rfl, rfl⟩
        · apply StepOk.p
          iterate 3 rfl
          intro β σX hσX
          show SL _ _ _ _ (sput (sput _ (some 71) _) (some 73) _) _ _
          refine sl_bsn ([ptV ⟨false, normL a.cells⟩, ptV ⟨a.null, []⟩]) rfl rfl (.cons rfl (.cons rfl .nil)) u_37 sz_40 zs_40 (by decide) rfl rfl rfl (SzI.get (by repeat constructor)) ?_
          exact sl_nil ⟨rfl, rfl, rfl, rfl⟩
        · apply StepOk.p
          iterate 3 rfl
          intro β σX hσX
          show SL _ _ _ _ (sput (sput _ (some 73) _) (some 74) _) _ _
          refine sl_callp rfl rfl cal_17 ((joinC [⟨false, normL a.cells⟩, ⟨a.null, []⟩] A (by rw [hA]; exact join_parts a) (fits2 (by have := normL_len a.cells; show (normL a.cells).length ≤ _; omega) (Nat.zero_le _)))) ?_ ?_
          · repeat constructor
          exact sl_nil ⟨rfl, rfl, rfl, rfl⟩
        · apply StepOk.p
          iterate 3 rfl
          intro β σX hσX
          refine sl_bsn ([ptV a]) rfl rfl (.cons rfl .nil) u_37 sz_40 zs_40 (by decide) rfl rfl rfl (SzI.get (by repeat constructor)) ?_
          exact sl_nil ⟨rfl, rfl, rfl, rfl⟩
      refine contT_p (contT_p (contT_p (contT_p (contT_p (contT_nil ?_)))))
      refine sa_one 8 (by kernel_rfl) rfl ?_
      refine sl_callp rfl rfl cal_17 ((joinC [a] A hA.symm ⟨by simp, fun p hp => by rw [List.mem_singleton.mp hp]; omega⟩)) ?_ ?_
      · repeat constructor
      refine sl_nil ⟨.nil, ?_⟩
      refine sa_one 9 (by kernel_rfl) rfl ?_
      refine sl_callp rfl rfl cal_16 ((eqC A A (by omega))) ?_ ?_
      · repeat constructor
      refine sl_nil ⟨.nil, ?_⟩
      refine sa_set 79 (.val (.bool true)) (val_tt (dec_self _)) ?_
      refine sa_take 10 rfl rfl (by kernel_rfl) .nil (pu_mv rfl rfl) ?_
      refine sa_take_y 11 rfl rfl rfl rfl (rfl) (by kernel_rfl) .nil (pu_load_rpn rfl rfl ag_40 sz_40 (Nat.le_of_ble_eq_true rfl)) ?_
      refine sa_take_y 13 rfl rfl rfl rfl (rfl) (by kernel_rfl) .nil (pu_load_rpn rfl rfl ag_40 sz_40 (Nat.le_of_ble_eq_true rfl)) ?_
      refine sa_one 12 (by kernel_rfl) rfl ?_
      refine sl_guard_y rfl rfl rfl (rfl) ?_
      refine sl_callp rfl rfl cal_21 ((pempty_ok a)) ?_ ?_
      · repeat constructor
      refine sl_nil ⟨.nil, ?_⟩
      refine sa_one 14 (by kernel_rfl) rfl ?_
      refine sl_guard_y rfl rfl rfl (rfl) ?_
      refine sl_callp rfl rfl cal_23 ((noC a (normL a.cells) rfl (by omega))) ?_ ?_
      · repeat constructor
      refine sl_nil ⟨.nil, ?_⟩
      refine sa_one 15 (by kernel_rfl) rfl ?_
      refine sl_guard_y rfl rfl rfl (rfl) ?_
      refine sl_callp rfl rfl cal_21 ((pempty_ok ⟨false, normL a.cells⟩)) ?_ ?_
      · repeat constructor
      refine sl_nil ⟨.nil, ?_⟩
      refine sa_take_y 16 rfl rfl rfl rfl (rfl) (by kernel_rfl) .nil (pu_mv rfl rfl) ?_
      refine sa_case_at 86 rfl (fun g5 => ?_) (fun g5 => ?_)
      · have k5 : emptyP ⟨false, normL a.cells⟩ = true := g5
        refine sa_take_y 17 rfl rfl rfl rfl g5 (by kernel_rfl) .nil (pu_load_rpn rfl rfl ag_40 sz_40 (Nat.le_of_ble_eq_true rfl)) ?_
        refine sa_one 18 (by kernel_rfl) rfl ?_
        refine sl_guard_y rfl rfl rfl g5 ?_
        refine sl_callp rfl rfl cal_24 ((ponly_ok a)) ?_ ?_
        · repeat constructor
        refine sl_nil ⟨.nil, ?_⟩
        refine sa_one 19 (by kernel_rfl) rfl ?_
        refine sl_guard_y rfl rfl rfl g5 ?_
        refine sl_callp rfl rfl cal_21 ((pempty_ok ⟨a.null, []⟩)) ?_ ?_
        · repeat constructor
        refine sl_nil ⟨.nil, ?_⟩
        refine sa_take_y 20 rfl rfl rfl rfl (rfl) (by kernel_rfl) .nil (pu_pk_t rfl rfl g5 rfl) ?_
        refine sa_take_y 21 rfl rfl rfl rfl (rfl) (by kernel_rfl) .nil (pu_bool_eq rfl rfl rfl u_4) ?_
        refine sa_set 91 (.val (.bool true)) (val_tt (by rw [empty_parts a, k5]; exact self_tt)) ?_
        refine sa_take 22 rfl rfl (by kernel_rfl) .nil (pu_pk_t rfl rfl (rfl) rfl) ?_
        refine sa_one 23 (by kernel_rfl) rfl ?_
        refine sl_as rfl rfl rfl ?_
        refine sl_nil ⟨.nil, ?_⟩
        refine sa_done (by kernel_rfl) ?_
        refine sw_ret ⟨rfl, _, _, res_one rfl rfl, ?_, ⟨rfl, rfl⟩⟩
        repeat constructor
      have k5 : emptyP ⟨false, normL a.cells⟩ = false := g5
      refine sa_take_n 17 rfl rfl rfl rfl g5 (by kernel_rfl) .nil ?_
      refine sa_take_n 18 rfl rfl rfl rfl g5 (by kernel_rfl) .nil ?_
      refine sa_take_n 19 rfl rfl rfl rfl g5 (by kernel_rfl) .nil ?_
      refine sa_take_y 20 rfl rfl rfl rfl (rfl) (by kernel_rfl) .nil (pu_pk_f rfl rfl g5 rfl) ?_
      refine sa_take_y 21 rfl rfl rfl rfl (rfl) (by kernel_rfl) .nil (pu_bool_eq rfl rfl rfl u_4) ?_
      refine sa_set 91 (.val (.bool true)) (val_tt (by rw [empty_parts a, k5]; rfl)) ?_
      refine sa_take 22 rfl rfl (by kernel_rfl) .nil (pu_pk_t rfl rfl (rfl) rfl) ?_
      refine sa_one 23 (by kernel_rfl) rfl ?_
      refine sl_as rfl rfl rfl ?_
      refine sl_nil ⟨.nil, ?_⟩
      refine sa_done (by kernel_rfl) ?_
      refine sw_ret ⟨rfl, _, _, res_one rfl rfl, ?_, ⟨rfl, rfl⟩⟩
      repeat constructor
    refine sa_take_n 44 rfl rfl rfl rfl g3 (by kernel_rfl) .nil ?_
    refine sa_take_n 45 rfl rfl rfl rfl g3 (by kernel_rfl) .nil ?_
    refine sa_take_n 46 rfl rfl rfl rfl g3 (by kernel_rfl) .nil ?_
    refine sa_take_n 47 rfl rfl rfl rfl g3 (by kernel_rfl) .nil ?_
    refine sa_take_y 48 rfl rfl rfl rfl (rfl) (by kernel_rfl) .nil (pu_pk_f rfl rfl g3 rfl) ?_
    refine sa_take 49 rfl rfl (by kernel_rfl) .nil (pu_pk_f rfl rfl (rfl) rfl) ?_
    refine sa_done (by kernel_rfl) ?_
    refine sw_false rfl (rfl) ?_
    refine sw_skip ?_
    refine sw_seq ?_
    refine sa_start [] mixed ?_
    refine sa_take 0 rfl rfl (by kernel_rfl) .nil (pu_load_rpn rfl rfl ag_40 sz_40 (Nat.le_of_ble_eq_true rfl)) ?_
    refine sa_take 2 rfl rfl (by kernel_rfl) .nil (pu_load_rpn rfl rfl ag_40 sz_40 (Nat.le_of_ble_eq_true rfl)) ?_
    refine sa_take 6 rfl rfl (by kernel_rfl) .nil (pu_load_rpn rfl rfl ag_40 sz_40 (Nat.le_of_ble_eq_true rfl)) ?_
    apply sa_conf [.p 1 (some 71) [] _, .p 3 (some 73) [0] _, .p 4 (some 74) [0, 1] _, .p 5 (some 75) [1, 2] _, .p 7 (some 77) [] _] (I := [(1, []), (3, [0]), (4, [0, 1]), (5, [1, 2]), (7, [])]) (nT := 5) rfl rfl rfl (by kernel_rfl) .nil
    · refine (.cons ?_ (.cons ?_ (.cons ?_ (.cons ?_ (.cons ?_ .nil)))))
      · apply StepOk.p
        iterate 3 rfl
        intro β σX hσX
        refine sl_callp rfl rfl cal_23 ((noC a (normL a.cells) rfl (by omega))) ?_ ?_
        · repeat constructor
        exact sl_nil ⟨rfl, rfl, rfl, rfl⟩
      · apply StepOk.p
        iterate 3 rfl
        intro β σX hσX
        show SL _ _ _ _ (sput _ (some 71) _) _ _
        refine sl_callp rfl rfl cal_24 ((ponly_ok a)) ?_ ?_
        · repeat constructor
        exact sl_nil ⟨rfl, rfl, rfl, rfl⟩
      · apply StepOk.p
        iterate 3 rfl
        intro β σX hσX
        show SL _ _ _ _ (sput (sput _ (some 71) _) (some 73) _) _ _
        refine sl_bsn ([ptV ⟨false, normL a.cells⟩, ptV ⟨a.null, []⟩]) rfl rfl (.cons rfl (.cons rfl .nil)) u_37 sz_40 zs_40 (by decide) rfl rfl rfl (SzI.get (by repeat constructor)) ?_
        exact sl_nil ⟨rfl, rfl, rfl, rfl⟩
      · apply StepOk.p
        iterate 3 rfl
        intro β σX hσX
        show SL _ _ _ _ (sput (sput _ (some 73) _) (some 74) _) _ _
        refine sl_callp rfl rfl cal_17 ((joinC [⟨false, normL a.cells⟩, ⟨a.null, []⟩] A (by rw [hA]; exact join_parts a) (fits2 (by have := normL_len a.cells; show (normL a.cells).length ≤ _; omega) (Nat.zero_le _)))) ?_ ?_
        · repeat constructor
        exact sl_nil ⟨rfl, rfl, rfl, rfl⟩
      · apply StepOk.p
        iterate 3 rfl
        intro β σX hσX
        refine sl_bsn ([ptV a]) rfl rfl (.cons rfl .nil) u_37 sz_40 zs_40 (by decide) rfl rfl rfl (SzI.get (by repeat constructor)) ?_
        exact sl_nil ⟨rfl, rfl, rfl, rfl⟩
    refine contT_p (contT_p (contT_p (contT_p (contT_p (contT_nil ?_)))))
    refine sa_one 8 (by kernel_rfl) rfl ?_
    refine sl_callp rfl rfl cal_17 ((joinC [a] A hA.symm ⟨by simp, fun p hp => by rw [List.mem_singleton.mp hp]; omega⟩)) ?_ ?_
    · repeat constructor
    refine sl_nil ⟨.nil, ?_⟩
    refine sa_one 9 (by kernel_rfl) rfl ?_
    refine sl_callp rfl rfl cal_16 ((eqC A A (by omega))) ?_ ?_
    · repeat constructor
    refine sl_nil ⟨.nil, ?_⟩
    refine sa_set 79 (.val (.bool true)) (val_tt (dec_self _)) ?_
    refine sa_take 10 rfl rfl (by kernel_rfl) .nil (pu_mv rfl rfl) ?_
    refine sa_take_y 11 rfl rfl rfl rfl (rfl) (by kernel_rfl) .nil (pu_load_rpn rfl rfl ag_40 sz_40 (Nat.le_of_ble_eq_true rfl)) ?_
    refine sa_take_y 13 rfl rfl rfl rfl (rfl) (by kernel_rfl) .nil (pu_load_rpn rfl rfl ag_40 sz_40 (Nat.le_of_ble_eq_true rfl)) ?_
    refine sa_one 12 (by kernel_rfl) rfl ?_
    refine sl_guard_y rfl rfl rfl (rfl) ?_
    refine sl_callp rfl rfl cal_21 ((pempty_ok a)) ?_ ?_
    · repeat constructor
    refine sl_nil ⟨.nil, ?_⟩
    refine sa_one 14 (by kernel_rfl) rfl ?_
    refine sl_guard_y rfl rfl rfl (rfl) ?_
    refine sl_callp rfl rfl cal_23 ((noC a (normL a.cells) rfl (by omega))) ?_ ?_
    · repeat constructor
    refine sl_nil ⟨.nil, ?_⟩
    refine sa_one 15 (by kernel_rfl) rfl ?_
    refine sl_guard_y rfl rfl rfl (rfl) ?_
    refine sl_callp rfl rfl cal_21 ((pempty_ok ⟨false, normL a.cells⟩)) ?_ ?_
    · repeat constructor
    refine sl_nil ⟨.nil, ?_⟩
    refine sa_take_y 16 rfl rfl rfl rfl (rfl) (by kernel_rfl) .nil (pu_mv rfl rfl) ?_
    refine sa_case_at 86 rfl (fun g5 => ?_) (fun g5 => ?_)
    · have k5 : emptyP ⟨false, normL a.cells⟩ = true := g5
      refine sa_take_y 17 rfl rfl rfl rfl g5 (by kernel_rfl) .nil (pu_load_rpn rfl rfl ag_40 sz_40 (Nat.le_of_ble_eq_true rfl)) ?_
      refine sa_one 18 (by kernel_rfl) rfl ?_
      refine sl_guard_y rfl rfl rfl g5 ?_
      refine sl_callp rfl rfl cal_24 ((ponly_ok a)) ?_ ?_
      · repeat constructor
      refine sl_nil ⟨.nil, ?_⟩
      refine sa_one 19 (by kernel_rfl) rfl ?_
      refine sl_guard_y rfl rfl rfl g5 ?_
      refine sl_callp rfl rfl cal_21 ((pempty_ok ⟨a.null, []⟩)) ?_ ?_
      · repeat constructor
      refine sl_nil ⟨.nil, ?_⟩
      refine sa_take_y 20 rfl rfl rfl rfl (rfl) (by kernel_rfl) .nil (pu_pk_t rfl rfl g5 rfl) ?_
      refine sa_take_y 21 rfl rfl rfl rfl (rfl) (by kernel_rfl) .nil (pu_bool_eq rfl rfl rfl u_4) ?_
      refine sa_set 91 (.val (.bool true)) (val_tt (by rw [empty_parts a, k5]; exact self_tt)) ?_
      refine sa_take 22 rfl rfl (by kernel_rfl) .nil (pu_pk_t rfl rfl (rfl) rfl) ?_
      refine sa_one 23 (by kernel_rfl) rfl ?_
      refine sl_as rfl rfl rfl ?_
      refine sl_nil ⟨.nil, ?_⟩
      refine sa_done (by kernel_rfl) ?_
      refine sw_ret ⟨rfl, _, _, res_one rfl rfl, ?_, ⟨rfl, rfl⟩⟩
      repeat constructor
    have k5 : emptyP ⟨false, normL a.cells⟩ = false := g5
    refine sa_take_n 17 rfl rfl rfl rfl g5 (by kernel_rfl) .nil ?_
    refine sa_take_n 18 rfl rfl rfl rfl g5 (by kernel_rfl) .nil ?_
    refine sa_take_n 19 rfl rfl rfl rfl g5 (by kernel_rfl) .nil ?_
    refine sa_take_y 20 rfl rfl rfl rfl (rfl) (by kernel_rfl) .nil (pu_pk_f rfl rfl g5 rfl) ?_
    refine sa_take_y 21 rfl rfl rfl rfl (rfl) (by kernel_rfl) .nil (pu_bool_eq rfl rfl rfl u_4) ?_
    refine sa_set 91 (.val (.bool true)) (val_tt (by rw [empty_parts a, k5]; rfl)) ?_
    refine sa_take 22 rfl rfl (by kernel_rfl) .nil (pu_pk_t rfl rfl (rfl) rfl) ?_
    refine sa_one 23 (by kernel_rfl) rfl ?_
    refine sl_as rfl rfl rfl ?_
    refine sl_nil ⟨.nil, ?_⟩
    refine sa_done (by kernel_rfl) ?_
    refine sw_ret ⟨rfl, _, _, res_one rfl rfl, ?_, ⟨rfl, rfl⟩⟩
    repeat constructor
  refine sa_take_n 39 rfl rfl rfl rfl g2 (by kernel_rfl) .nil ?_
  refine sa_take_n 40 rfl rfl rfl rfl g2 (by kernel_rfl) .nil ?_
  refine sa_take_n 41 rfl rfl rfl rfl g2 (by kernel_rfl) .nil ?_
  refine sa_take_y 42 rfl rfl rfl rfl (rfl) (by kernel_rfl) .nil (pu_pk_f rfl rfl g2 rfl) ?_
  refine sa_take_y 43 rfl rfl rfl rfl (rfl) (by kernel_rfl) .nil (pu_mv rfl rfl) ?_
  refine sa_take_n 44 rfl rfl rfl rfl (rfl) (by kernel_rfl) .nil ?_
  refine sa_take_n 45 rfl rfl rfl rfl (rfl) (by kernel_rfl) .nil ?_
  refine sa_take_n 46 rfl rfl rfl rfl (rfl) (by kernel_rfl) .nil ?_
  refine sa_take_n 47 rfl rfl rfl rfl (rfl) (by kernel_rfl) .nil ?_
  refine sa_take_y 48 rfl rfl rfl rfl (rfl) (by kernel_rfl) .nil (pu_pk_f rfl rfl (rfl) rfl) ?_
  refine sa_take 49 rfl rfl (by kernel_rfl) .nil (pu_pk_f rfl rfl (rfl) rfl) ?_
  refine sa_done (by kernel_rfl) ?_
  refine sw_false rfl (rfl) ?_
  refine sw_skip ?_
  refine sw_seq ?_
  refine sa_start [] mixed ?_
  refine sa_take 0 rfl rfl (by kernel_rfl) .nil (pu_load_rpn rfl rfl ag_40 sz_40 (Nat.le_of_ble_eq_true rfl)) ?_
  refine sa_take 2 rfl rfl (by kernel_rfl) .nil (pu_load_rpn rfl rfl ag_40 sz_40 (Nat.le_of_ble_eq_true rfl)) ?_
  refine sa_take 6 rfl rfl (by kernel_rfl) .nil (pu_load_rpn rfl rfl ag_40 sz_40 (Nat.le_of_ble_eq_true rfl)) ?_
  apply sa_conf [.p 1 (some 71) [] _, .p 3 (some 73) [0] _, .p 4 (some 74) [0, 1] _, .p 5 (some 75) [1, 2] _, .p 7 (some 77) [] _] (I := [(1, []), (3, [0]), (4, [0, 1]), (5, [1, 2]), (7, [])]) (nT := 5) rfl rfl rfl (by kernel_rfl) .nil
  · refine (.cons ?_ (.cons ?_ (.cons ?_ (.cons ?_ (.cons ?_ .nil)))))
    · apply StepOk.p
      iterate 3 rfl
      intro β σX hσX
      refine sl_callp rfl rfl cal_23 ((noC a (normL a.cells) rfl (by omega))) ?_ ?_
      · repeat constructor
      exact sl_nil ⟨rfl, rfl, rfl, rfl⟩
    · apply StepOk.p
      iterate 3 rfl
      intro β σX hσX
      show SL _ _ _ _ (sput _ (some 71) _) _ _
      refine sl_callp rfl rfl cal_24 ((ponly_ok a)) ?_ ?_
      · repeat constructor
      exact sl_nil ⟨rfl, rfl, rfl, rfl⟩
    · apply StepOk.p
      iterate 3 rfl
      intro β σX hσX
      show SL _ _ _ _ (sput (sput _ (some 71) _) (some 73) _) _ _
      refine sl_bsn ([ptV ⟨false, normL a.cells⟩, ptV ⟨a.null, []⟩]) rfl rfl (.cons rfl (.cons rfl .nil)) u_37 sz_40 zs_40 (by decide) rfl rfl rfl (SzI.get (by repeat constructor)) ?_
      exact sl_nil ⟨rfl, rfl, rfl, rfl⟩
    · apply StepOk.p
      iterate 3 rfl
      intro β σX hσX
      show SL _ _ _ _ (sput (sput _ (some 73) _) (some 74) _) _ _
      refine sl_callp rfl rfl cal_17 ((joinC [⟨false, normL a.cells⟩, ⟨a.null, []⟩] A (by rw [hA]; exact join_parts a) (fits2 (by have := normL_len a.cells; show (normL a.cells).length ≤ _; omega) (Nat.zero_le _)))) ?_ ?_
      · repeat constructor
      exact sl_nil ⟨rfl, rfl, rfl, rfl⟩
    · apply StepOk.p
      iterate 3 rfl
      intro β σX hσX
      refine sl_bsn ([ptV a]) rfl rfl (.cons rfl .nil) u_37 sz_40 zs_40 (by decide) rfl rfl rfl (SzI.get (by repeat constructor)) ?_
      exact sl_nil ⟨rfl, rfl, rfl, rfl⟩
  refine contT_p (contT_p (contT_p (contT_p (contT_p (contT_nil ?_)))))
  refine sa_one 8 (by kernel_rfl) rfl ?_
  refine sl_callp rfl rfl cal_17 ((joinC [a] A hA.symm ⟨by simp, fun p hp => by rw [List.mem_singleton.mp hp]; omega⟩)) ?_ ?_
  · repeat constructor
  refine sl_nil ⟨.nil, ?_⟩
  refine sa_one 9 (by kernel_rfl) rfl ?_
  refine sl_callp rfl rfl cal_16 ((eqC A A (by omega))) ?_ ?_
  · repeat constructor
  refine sl_nil ⟨.nil, ?_⟩
  refine sa_set 79 (.val (.bool true)) (val_tt (dec_self _)) ?_
  refine sa_take 10 rfl rfl (by kernel_rfl) .nil (pu_mv rfl rfl) ?_
  refine sa_take_y 11 rfl rfl rfl rfl (rfl) (by kernel_rfl) .nil (pu_load_rpn rfl rfl ag_40 sz_40 (Nat.le_of_ble_eq_true rfl)) ?_
  refine sa_take_y 13 rfl rfl rfl rfl (rfl) (by kernel_rfl) .nil (pu_load_rpn rfl rfl ag_40 sz_40 (Nat.le_of_ble_eq_true rfl)) ?_
  refine sa_one 12 (by kernel_rfl) rfl ?_
  refine sl_guard_y rfl rfl rfl (rfl) ?_
  refine sl_callp rfl rfl cal_21 ((pempty_ok a)) ?_ ?_
  · repeat constructor
  refine sl_nil ⟨.nil, ?_⟩
  refine sa_one 14 (by kernel_rfl) rfl ?_
  refine sl_guard_y rfl rfl rfl (rfl) ?_
  refine sl_callp rfl rfl cal_23 ((noC a (normL a.cells) rfl (by omega))) ?_ ?_
  · repeat constructor
  refine sl_nil ⟨.nil, ?_⟩
  refine sa_one 15 (by kernel_rfl) rfl ?_
  refine sl_guard_y rfl rfl rfl (rfl) ?_
  refine sl_callp rfl rfl cal_21 ((pempty_ok ⟨false, normL a.cells⟩)) ?_ ?_
  · repeat constructor
  refine sl_nil ⟨.nil, ?_⟩
  refine sa_take_y 16 rfl rfl rfl rfl (rfl) (by kernel_rfl) .nil (pu_mv rfl rfl) ?_
  refine sa_case_at 86 rfl (fun g5 => ?_) (fun g5 => ?_)
  · have k5 : emptyP ⟨false, normL a.cells⟩ = true := g5
    refine sa_take_y 17 rfl rfl rfl rfl g5 (by kernel_rfl) .nil (pu_load_rpn rfl rfl ag_40 sz_40 (Nat.le_of_ble_eq_true rfl)) ?_
    refine sa_one 18 (by kernel_rfl) rfl ?_
    refine sl_guard_y rfl rfl rfl g5 ?_
    refine sl_callp rfl rfl cal_24 ((ponly_ok a)) ?_ ?_
    · repeat constructor
    refine sl_nil ⟨.nil, ?_⟩
    refine sa_one 19 (by kernel_rfl) rfl ?_
    refine sl_guard_y rfl rfl rfl g5 ?_
    refine sl_callp rfl rfl cal_21 ((pempty_ok ⟨a.null, []⟩)) ?_ ?_
    · repeat constructor
    refine sl_nil ⟨.nil, ?_⟩
    refine sa_take_y 20 rfl rfl rfl rfl (rfl) (by kernel_rfl) .nil (pu_pk_t rfl rfl g5 rfl) ?_
    refine sa_take_y 21 rfl rfl rfl rfl (rfl) (by kernel_rfl) .nil (pu_bool_eq rfl rfl rfl u_4) ?_
    refine sa_set 91 (.val (.bool true)) (val_tt (by rw [empty_parts a, k5]; exact self_tt)) ?_
    refine sa_take 22 rfl rfl (by kernel_rfl) .nil (pu_pk_t rfl rfl (rfl) rfl) ?_
    refine sa_one 23 (by kernel_rfl) rfl ?_
    refine sl_as rfl rfl rfl ?_
    refine sl_nil ⟨.nil, ?_⟩
    refine sa_done (by kernel_rfl) ?_
    refine sw_ret ⟨rfl, _, _, res_one rfl rfl, ?_, ⟨rfl, rfl⟩⟩
    repeat constructor
  have k5 : emptyP ⟨false, normL a.cells⟩ = false := g5
  refine sa_take_n 17 rfl rfl rfl rfl g5 (by kernel_rfl) .nil ?_
  refine sa_take_n 18 rfl rfl rfl rfl g5 (by kernel_rfl) .nil ?_
  refine sa_take_n 19 rfl rfl rfl rfl g5 (by kernel_rfl) .nil ?_
  refine sa_take_y 20 rfl rfl rfl rfl (rfl) (by kernel_rfl) .nil (pu_pk_f rfl rfl g5 rfl) ?_
  refine sa_take_y 21 rfl rfl rfl rfl (rfl) (by kernel_rfl) .nil (pu_bool_eq rfl rfl rfl u_4) ?_
  refine sa_set 91 (.val (.bool true)) (val_tt (by rw [empty_parts a, k5]; rfl)) ?_
  refine sa_take 22 rfl rfl (by kernel_rfl) .nil (pu_pk_t rfl rfl (rfl) rfl) ?_
  refine sa_one 23 (by kernel_rfl) rfl ?_
  refine sl_as rfl rfl rfl ?_
  refine sl_nil ⟨.nil, ?_⟩
  refine sa_done (by kernel_rfl) ?_
  refine sw_ret ⟨rfl, _, _, res_one rfl rfl, ?_, ⟨rfl, rfl⟩⟩
  repeat constructor

end Go.Proofs.Ytipacoopapjdpaa

/- Walks: printed by a program of this session out of its script PtsJ. -/
namespace Go.Proofs.Ytipacoopapjdpaa
set_option linter.unusedVariables false
set_option linter.unusedSimpArgs false
set_option maxRecDepth 4000
set_option maxHeartbeats 4000000
open Go Go.RowKit SL


theorem leq_self (a : Pt) : leqP a a = true := leqP_iff.mpr ⟨fun h => h, fun x hx => hx⟩
theorem leq_trans {a b c : Pt} (h1 : leqP a b = true) (h2 : leqP b c = true) : leqP a c = true := by
  obtain ⟨n1, c1⟩ := leqP_iff.mp h1
  obtain ⟨n2, c2⟩ := leqP_iff.mp h2
  exact leqP_iff.mpr ⟨fun h => n2 (n1 h), fun x hx => c2 x (c1 x hx)⟩
theorem leq_anti {a b : Pt} (ha : Strict a.cells) (hb : Strict b.cells) (h1 : leqP a b = true) (h2 : leqP b a = true) : a = b := by
  obtain ⟨n1, c1⟩ := leqP_iff.mp h1
  obtain ⟨n2, c2⟩ := leqP_iff.mp h2
  refine eqPt.mpr ⟨?_, strict_ext ha hb fun x => ⟨c1 x, c2 x⟩⟩
  cases e1 : a.null <;> cases e2 : b.null <;> simp_all
theorem order_joinP {a b : Pt} (hb : Strict b.cells) : leqP a b = decide (joinP [a, b] = b) := by
  by_cases h : leqP a b = true
  · rw [h]
    refine (decide_eq_true ?_).symm
    exact leq_anti (normL_strict _) hb (leq_join_least h (leq_self b)) (leq_join_r a b)
  · have h' : leqP a b = false := by simpa using h
    rw [h']
    refine (decide_eq_false fun e => h ?_).symm
    have := leq_join_l a b
    rwa [e] at this
theorem join1 (a : Pt) : joinP [a] = nmP a := eqPt.mpr ⟨by show (a.null || false) = a.null; simp, by show normL (allCells [a]) = normL a.cells; simp [allCells]⟩
theorem strict_geq {l : List Txt} (h : Strict l) {k : Nat} (h0 : 1 ≤ k) (hk : k < l.length) : Op.bytesLess l[k - 1] l[k] = true := by
  rw [bl_eq, decide_eq_true]
  exact List.pairwise_iff_getElem.mp h (k - 1) k (by omega) hk (by omega)

theorem nat_pred {k : Nat} (h : 1 ≤ k) (h2 : k ≤ 1000000) : IntKind.i64.wrap ((k : Int) - 1) = ((k - 1 : Nat) : Int) := by
  rw [wrap_i64 (by omega) (by omega)]; omega


/-- PtsOrder. -/
theorem ptsOrder_ok (a b c : Pt) : FSpec Try.prog 6 [.val (ptV a), .val (ptV b), .val (ptV c)] [] (fun d σ' => d = .val (.bool true) ∧ σ' = []) := by
  refine spec_of_sw Try.func6 rfl ?_
  refine sw_seq ?_
  refine sl_region ?_
  refine sl_bx_imm rfl rfl rfl rfl rfl ?_
  refine sl_bx_imm rfl rfl rfl rfl rfl ?_
  refine sl_bx_imm rfl rfl rfl rfl rfl ?_
  refine sl_as rfl rfl rfl ?_
  refine sl_nil ?_
  refine sw_seq ?_
  refine sw_seq ?_
  refine sl_region ?_
  refine sl_callp rfl rfl cal_13 (known14_ok) ?_ ?_
  · repeat constructor
  refine sl_not rfl rfl rfl ?_
  refine sl_nil ?_
  refine sw_false rfl (rfl) ?_
  refine sw_skip ?_
  refine sw_seq ?_
  refine sw_seq ?_
  refine sl_region ?_
  first
    | refine sl_load_rpn rfl rfl rfl ag_40 sz_40 (Nat.le_of_ble_eq_true rfl) ?_
    | refine sl_load_blkn rfl rfl rfl ag_40 sz_40 (by repeat constructor) (Nat.le_of_ble_eq_true rfl) ?_
    | refine sl_load_ref rfl rfl rfl ag_40 sz_40 (Nat.le_of_ble_eq_true rfl) ?_
  first
    | refine sl_load_rpn rfl rfl rfl ag_40 sz_40 (Nat.le_of_ble_eq_true rfl) ?_
    | refine sl_load_blkn rfl rfl rfl ag_40 sz_40 (by repeat constructor) (Nat.le_of_ble_eq_true rfl) ?_
    | refine sl_load_ref rfl rfl rfl ag_40 sz_40 (Nat.le_of_ble_eq_true rfl) ?_
  first
    | refine sl_load_rpn rfl rfl rfl ag_40 sz_40 (Nat.le_of_ble_eq_true rfl) ?_
    | refine sl_load_blkn rfl rfl rfl ag_40 sz_40 (by repeat constructor) (Nat.le_of_ble_eq_true rfl) ?_
    | refine sl_load_ref rfl rfl rfl ag_40 sz_40 (Nat.le_of_ble_eq_true rfl) ?_
  refine sl_bsn ([ptV a, ptV b, ptV c]) rfl rfl (.cons rfl (.cons rfl (.cons rfl .nil))) u_37 sz_40 zs_40 (by decide) rfl rfl rfl (SzI.get (by repeat constructor)) ?_
  refine sl_callp rfl rfl cal_14 (light_ok [a, b, c]) ?_ ?_
  · repeat constructor
  refine sl_not rfl rfl rfl ?_
  refine sl_nil ?_
  refine sw_cond rfl (fun g0 => ?_) (fun g0 => ?_)
  · refine sw_seq ?_
    refine sl_region ?_
    refine sl_as rfl rfl rfl ?_
    refine sl_nil ?_
    refine sw_ret ⟨rfl, _, _, res_one rfl rfl, ?_, ⟨rfl, rfl⟩⟩
    repeat constructor
  have hl : lightL [a, b, c] = true := by simpa using g0
  have ha : a.cells.length ≤ 10 := (lightP_iff.mp ((lightL_iff.mp hl).2 a (by simp))).1
  have hb : b.cells.length ≤ 10 := (lightP_iff.mp ((lightL_iff.mp hl).2 b (by simp))).1
  have hc : c.cells.length ≤ 10 := (lightP_iff.mp ((lightL_iff.mp hl).2 c (by simp))).1
  obtain ⟨X, hX⟩ : ∃ x, x = joinP [a] := ⟨_, rfl⟩
  obtain ⟨Y, hY⟩ : ∃ x, x = joinP [b] := ⟨_, rfl⟩
  obtain ⟨Z, hZ⟩ : ∃ x, x = joinP [c] := ⟨_, rfl⟩
  have hXs : Strict X.cells := by rw [hX]; exact normL_strict _
  have hYs : Strict Y.cells := by rw [hY]; exact normL_strict _
  have hXl : X.cells.length ≤ 10 := by rw [hX, join1]; exact Nat.le_trans (normL_len _) ha
  have hYl : Y.cells.length ≤ 10 := by rw [hY, join1]; exact Nat.le_trans (normL_len _) hb
  have hZl : Z.cells.length ≤ 10 := by rw [hZ, join1]; exact Nat.le_trans (normL_len _) hc
  obtain ⟨U, hU⟩ : ∃ x, x = joinP [X, Y] := ⟨_, rfl⟩
  have hUl : U.cells.length ≤ 20 := by rw [hU]; exact join_small hXl hYl
  refine sw_skip ?_
  refine sw_seq ?_
  refine sa_start [] mixed ?_
  refine sa_take 0 rfl rfl (by kernel_rfl) .nil (pu_load_rpn rfl rfl ag_40 sz_40 (Nat.le_of_ble_eq_true rfl)) ?_
  refine sa_take 3 rfl rfl (by kernel_rfl) .nil (pu_load_rpn rfl rfl ag_40 sz_40 (Nat.le_of_ble_eq_true rfl)) ?_
  refine sa_take 6 rfl rfl (by kernel_rfl) .nil (pu_load_rpn rfl rfl ag_40 sz_40 (Nat.le_of_ble_eq_true rfl)) ?_
  apply sa_conf [.p 1 (some 20) [] _, .p 2 (some 21) [0] _, .p 4 (some 23) [] _, .p 5 (some 24) [1, 2] _, .p 7 (some 26) [] _, .p 8 (some 27) [3, 4] _, .n 9 7 [.val (.bool false), .fix []], .n 10 8 [.val (.bool false), .fix []], .n 11 9 [.val (.bool false), .fix []]] (I := [(1, []), (2, [0]), (4, []), (5, [1, 2]), (7, []), (8, [3, 4]), (9, []), (10, []), (11, [])]) (nT := 9) rfl rfl rfl (by kernel_rfl) .nil
  · refine (.cons ?_ (.cons ?_ (.cons ?_ (.cons ?_ (.cons ?_ (.cons ?_ (.cons ?_ (.cons ?_ (.cons ?_ .nil)))))))))
    · apply StepOk.p
      iterate 3 rfl
      intro β σX hσX
      refine sl_bsn ([ptV a]) rfl rfl (.cons rfl .nil) u_37 sz_40 zs_40 (by decide) rfl rfl rfl (SzI.get (by repeat constructor)) ?_
      exact sl_nil ⟨rfl, rfl, rfl, rfl⟩
    · apply StepOk.p
      iterate 3 rfl
      intro β σX hσX
      show SL _ _ _ _ (sput _ (some 20) _) _ _
      refine sl_callp rfl rfl cal_17 ((joinC [a] X hX.symm ⟨by simp, fun p hp => by rw [List.mem_singleton.mp hp]; omega⟩)) ?_ ?_
      · repeat constructor
      exact sl_nil ⟨rfl, rfl, rfl, rfl⟩
    · apply StepOk.p
      iterate 3 rfl
      intro β σX hσX
      refine sl_bsn ([ptV b]) rfl rfl (.cons rfl .nil) u_37 sz_40 zs_40 (by decide) rfl rfl rfl (SzI.get (by repeat constructor)) ?_
      exact sl_nil ⟨rfl, rfl, rfl, rfl⟩
    · apply StepOk.p
      iterate 3 rfl
      intro β σX hσX
      show SL _ _ _ _ (sput (sput _ (some 21) _) (some 23) _) _ _
      refine sl_callp rfl rfl cal_17 ((joinC [b] Y hY.symm ⟨by simp, fun p hp => by rw [List.mem_singleton.mp hp]; omega⟩)) ?_ ?_
      · repeat constructor
      exact sl_nil ⟨rfl, rfl, rfl, rfl⟩
    · apply StepOk.p
      iterate 3 rfl
      intro β σX hσX
      refine sl_bsn ([ptV c]) rfl rfl (.cons rfl .nil) u_37 sz_40 zs_40 (by decide) rfl rfl rfl (SzI.get (by repeat constructor)) ?_
      exact sl_nil ⟨rfl, rfl, rfl, rfl⟩
    · apply StepOk.p
      iterate 3 rfl
      intro β σX hσX
      show SL _ _ _ _ (sput (sput _ (some 24) _) (some 26) _) _ _
      refine sl_callp rfl rfl cal_17 ((joinC [c] Z hZ.symm ⟨by simp, fun p hp => by rw [List.mem_singleton.mp hp]; omega⟩)) ?_ ?_
      · repeat constructor
      exact sl_nil ⟨rfl, rfl, rfl, rfl⟩
    · refine .n rfl rfl rfl (fun σX => ?_)
      exact sl_alloc rfl rfl zd_40 (fun b => sl_nil ⟨rfl, b, rfl, rfl, rfl⟩)
    · refine .n rfl rfl rfl (fun σX => ?_)
      exact sl_alloc rfl rfl zd_40 (fun b => sl_nil ⟨rfl, b, rfl, rfl, rfl⟩)
    · refine .n rfl rfl rfl (fun σX => ?_)
      exact sl_alloc rfl rfl zd_40 (fun b => sl_nil ⟨rfl, b, rfl, rfl, rfl⟩)
  refine contT_p (contT_p (contT_p (contT_p (contT_p (contT_p (contT_n fun b7 => contT_n fun b8 => contT_n fun b9 => contT_nil ?_))))))
  refine sa_one 12 (by kernel_rfl) rfl ?_
  refine sl_stp rfl rfl rfl rfl sz_40 rfl rfl rfl (by repeat constructor) (Nat.le_of_ble_eq_true rfl) ?_
  refine sl_nil ⟨.nil, ?_⟩
  refine sa_one 13 (by kernel_rfl) rfl ?_
  refine sl_stp rfl rfl rfl rfl sz_40 rfl rfl rfl (by repeat constructor) (Nat.le_of_ble_eq_true rfl) ?_
  refine sl_nil ⟨.nil, ?_⟩
  refine sa_one 14 (by kernel_rfl) rfl ?_
  refine sl_stp rfl rfl rfl rfl sz_40 rfl rfl rfl (by repeat constructor) (Nat.le_of_ble_eq_true rfl) ?_
  refine sl_nil ⟨.nil, ?_⟩
  refine sa_done (by kernel_rfl) ?_
  refine sw_seq ?_
  refine sw_seq ?_
  refine sw_fz 7 rfl rfl (by repeat constructor) ?_
  refine sw_fz 8 rfl rfl (by repeat constructor) ?_
  refine sw_fz 9 rfl rfl (by repeat constructor) ?_
  refine sl_region ?_
  refine sl_as rfl rfl rfl ?_
  refine sl_nil ?_
  refine sw_block ?_
  refine sw_loopw (fun nX sX δX σX => ∃ (k : Nat), (X.cells.length + 1 - k) = nX ∧ sX = ⟨102, (.cons 3 (.rp (ptV a).cells) (.cons 4 (.rp (ptV b).cells) (.cons 5 (.rp (ptV c).cells) (.cons 7 (.rp (ptV X).cells) (.cons 8 (.rp (ptV Y).cells) (.cons 9 (.rp (ptV Z).cells) (.cons 10 (.val (.int .i64 (k : Int))) .nil)))))))⟩ ∧ δX = [] ∧ σX = [] ∧ (1 ≤ k)) ?_ ?_
  · refine ⟨_, _, _, ?_, ?_, 1, rfl, rfl, rfl, rfl, (Nat.le_refl _)⟩
    · exact ⟨rfl, by repeat constructor⟩
    · repeat constructor
  rintro nX sX δX σX ⟨k, rfl, rfl, rfl, rfl, hk1⟩
  refine sw_seq ?_
  refine sw_seq ?_
  refine sl_region ?_
  refine sl_mv rfl rfl rfl ?_
  first
    | refine sl_fieldAddr_ptr rfl rfl rfl fo_40_1 ?_
    | refine sl_fieldAddr_rp rfl rfl rfl fo_40_1 ?_
    | refine sl_fieldAddr_ref rfl rfl rfl fo_40_1 ?_
  first
    | refine sl_load_rp1 rfl rfl rfl ag_38 rfl ?_
    | refine sl_load_blk1 rfl rfl rfl ag_38 (by repeat constructor) rfl ?_
  first
    | refine sl_len rfl rfl rfl ⟨_, u_38⟩ ?_
    | refine sl_len_sl rfl rfl rfl ⟨_, u_38⟩ ?_
    | refine sl_len_w _ rfl rfl rfl ⟨_, u_38⟩ ?_
  refine sl_bin rfl rfl rfl rfl rfl ?_
  refine sl_nil ?_
  refine sw_cond rfl (fun hk => ?_) (fun hk => ?_)
  · have hk : k < X.cells.length := by simpa using hk
    refine sw_skip ?_
    refine sw_seq ?_
    refine sw_block ?_
    refine sw_seq ?_
    refine sa_start [] mixed ?_
    first
      | refine sa_take 0 rfl rfl (by kernel_rfl) .nil (pu_fieldAddr_ptr rfl rfl fo_40_1) ?_
      | refine sa_take 0 rfl rfl (by kernel_rfl) .nil (pu_fieldAddr_rp rfl rfl fo_40_1) ?_
      | refine sa_take 0 rfl rfl (by kernel_rfl) .nil (pu_fieldAddr_ref rfl rfl fo_40_1) ?_
    refine sa_take 1 rfl rfl (by kernel_rfl) .nil (pu_load_rp1 rfl rfl ag_38 rfl) ?_
    refine sa_take 2 rfl rfl (by kernel_rfl) .nil (pu_mv rfl rfl) ?_
    refine sa_take 3 rfl rfl (by kernel_rfl) .nil (pu_bin rfl rfl rfl rfl) ?_
    refine sa_set 38 (.val (.int .i64 ((k - 1 : Nat) : Int))) (congrArg (fun z => D.val (.int .i64 z)) (nat_pred hk1 (by omega))) ?_
    refine sa_take 4 rfl rfl (by kernel_rfl) .nil (pu_indexAddr rfl rfl rfl u_38 sz_9 (by omega) (idx_map (by omega : k - 1 < X.cells.length)) rfl) ?_
    refine sa_take 5 rfl rfl (by kernel_rfl) .nil (pu_load_rp1 rfl rfl ag_9 rfl) ?_
    first
      | refine sa_take 6 rfl rfl (by kernel_rfl) .nil (pu_fieldAddr_ptr rfl rfl fo_40_1) ?_
      | refine sa_take 6 rfl rfl (by kernel_rfl) .nil (pu_fieldAddr_rp rfl rfl fo_40_1) ?_
      | refine sa_take 6 rfl rfl (by kernel_rfl) .nil (pu_fieldAddr_ref rfl rfl fo_40_1) ?_
    refine sa_take 7 rfl rfl (by kernel_rfl) .nil (pu_load_rp1 rfl rfl ag_38 rfl) ?_
    refine sa_take 8 rfl rfl (by kernel_rfl) .nil (pu_mv rfl rfl) ?_
    refine sa_take 9 rfl rfl (by kernel_rfl) .nil (pu_indexAddr rfl rfl rfl u_38 sz_9 (by omega) (idx_map hk) rfl) ?_
    refine sa_take 10 rfl rfl (by kernel_rfl) .nil (pu_load_rp1 rfl rfl ag_9 rfl) ?_
    refine sa_take 11 rfl rfl (by kernel_rfl) .nil (pu_str rfl rfl rfl rfl) ?_
    refine sa_done (by kernel_rfl) ?_
    refine sw_false rfl (by rw [strict_geq hXs hk1 hk]; rfl) ?_
    refine sw_skip ?_
    refine sl_region ?_
    refine sl_mv rfl rfl rfl ?_
    first
      | refine sl_inc rfl rfl rfl rfl (by omega) ?_
      | refine sl_add rfl rfl rfl rfl (by constructor <;> omega) ?_
      | refine sl_bin rfl rfl rfl rfl rfl ?_
    refine sl_as rfl rfl rfl ?_
    refine sl_nil ?_
    refine ⟨_, by omega, _, _, ?_, ?_, k + 1, rfl, rfl, rfl, rfl, (by omega)⟩
    · exact ⟨rfl, by repeat constructor⟩
    · repeat constructor
  refine sw_exit ?_
  refine sw_seq ?_
  refine sa_start [] mixed ?_
  refine sa_take 0 rfl rfl (by kernel_rfl) .nil (pu_load_rpn rfl rfl ag_40 sz_40 (Nat.le_of_ble_eq_true rfl)) ?_
  refine sa_take 1 rfl rfl (by kernel_rfl) .nil (pu_load_rpn rfl rfl ag_40 sz_40 (Nat.le_of_ble_eq_true rfl)) ?_
  refine sa_one 2 (by kernel_rfl) rfl ?_
  refine sl_callp rfl rfl cal_15 ((rptsC a X (by rw [hX, join1]) (by omega))) ?_ ?_
  · repeat constructor
  refine sl_nil ⟨.nil, ?_⟩
  refine sa_one 3 (by kernel_rfl) rfl ?_
  refine sl_callp rfl rfl cal_16 ((eqC X X (by omega))) ?_ ?_
  · repeat constructor
  refine sl_nil ⟨.nil, ?_⟩
  refine sa_set 50 (.val (.bool true)) (val_tt (dec_self _)) ?_
  refine sa_take 4 rfl rfl (by kernel_rfl) .nil (pu_mv rfl rfl) ?_
  refine sa_take_y 5 rfl rfl rfl rfl (rfl) (by kernel_rfl) .nil (pu_load_rpn rfl rfl ag_40 sz_40 (Nat.le_of_ble_eq_true rfl)) ?_
  refine sa_take_y 6 rfl rfl rfl rfl (rfl) (by kernel_rfl) .nil (pu_load_rpn rfl rfl ag_40 sz_40 (Nat.le_of_ble_eq_true rfl)) ?_
  refine sa_one 7 (by kernel_rfl) rfl ?_
  refine sl_guard_y rfl rfl rfl (rfl) ?_
  refine sl_callp rfl rfl cal_19 ((leC X X (by omega) (by omega))) ?_ ?_
  · repeat constructor
  refine sl_nil ⟨.nil, ?_⟩
  refine sa_set 54 (.val (.bool true)) (val_tt (leq_self _)) ?_
  refine sa_take 8 rfl rfl (by kernel_rfl) .nil (pu_pk_t rfl rfl (rfl) rfl) ?_
  refine sa_take 9 rfl rfl (by kernel_rfl) .nil (pu_mv rfl rfl) ?_
  refine sa_take_y 10 rfl rfl rfl rfl (rfl) (by kernel_rfl) .nil (pu_load_rpn rfl rfl ag_40 sz_40 (Nat.le_of_ble_eq_true rfl)) ?_
  refine sa_take_y 11 rfl rfl rfl rfl (rfl) (by kernel_rfl) .nil (pu_load_rpn rfl rfl ag_40 sz_40 (Nat.le_of_ble_eq_true rfl)) ?_
  refine sa_one 12 (by kernel_rfl) rfl ?_
  refine sl_guard_y rfl rfl rfl (rfl) ?_
  refine sl_callp rfl rfl cal_19 ((leC X Y (by omega) (by omega))) ?_ ?_
  · repeat constructor
  refine sl_nil ⟨.nil, ?_⟩
  refine sa_take_y 13 rfl rfl rfl rfl (rfl) (by kernel_rfl) .nil (pu_not rfl rfl) ?_
  refine sa_take_y 14 rfl rfl rfl rfl (rfl) (by kernel_rfl) .nil (pu_mv rfl rfl) ?_
  refine sa_case_at 61 rfl (fun g1 => ?_) (fun g1 => ?_)
  · refine sa_take_n 15 rfl rfl rfl rfl g1 (by kernel_rfl) .nil ?_
    refine sa_take_n 16 rfl rfl rfl rfl g1 (by kernel_rfl) .nil ?_
    refine sa_take_n 17 rfl rfl rfl rfl g1 (by kernel_rfl) .nil ?_
    refine sa_take_n 18 rfl rfl rfl rfl g1 (by kernel_rfl) .nil ?_
    refine sa_take_y 19 rfl rfl rfl rfl (rfl) (by kernel_rfl) .nil (pu_pk_t rfl rfl g1 rfl) ?_
    refine sa_take_y 20 rfl rfl rfl rfl (rfl) (by kernel_rfl) .nil (pu_mv rfl rfl) ?_
    refine sa_take_n 21 rfl rfl rfl rfl (rfl) (by kernel_rfl) .nil ?_
    refine sa_take_n 22 rfl rfl rfl rfl (rfl) (by kernel_rfl) .nil ?_
    refine sa_take_n 23 rfl rfl rfl rfl (rfl) (by kernel_rfl) .nil ?_
    refine sa_take_y 24 rfl rfl rfl rfl (rfl) (by kernel_rfl) .nil (pu_pk_t rfl rfl (rfl) rfl) ?_
    refine sa_take 25 rfl rfl (by kernel_rfl) .nil (pu_pk_t rfl rfl (rfl) rfl) ?_
    refine sa_take 26 rfl rfl (by kernel_rfl) .nil (pu_mv rfl rfl) ?_
    refine sa_take_y 27 rfl rfl rfl rfl (rfl) (by kernel_rfl) .nil (pu_load_rpn rfl rfl ag_40 sz_40 (Nat.le_of_ble_eq_true rfl)) ?_
    refine sa_take_y 28 rfl rfl rfl rfl (rfl) (by kernel_rfl) .nil (pu_load_rpn rfl rfl ag_40 sz_40 (Nat.le_of_ble_eq_true rfl)) ?_
    refine sa_one 29 (by kernel_rfl) rfl ?_
    refine sl_guard_y rfl rfl rfl (rfl) ?_
    refine sl_callp rfl rfl cal_19 ((leC X Y (by omega) (by omega))) ?_ ?_
    · repeat constructor
    refine sl_nil ⟨.nil, ?_⟩
    refine sa_take_y 30 rfl rfl rfl rfl (rfl) (by kernel_rfl) .nil (pu_not rfl rfl) ?_
    refine sa_set 77 (.val (.bool true)) (val_tt g1) ?_
    refine sa_take_y 31 rfl rfl rfl rfl (rfl) (by kernel_rfl) .nil (pu_mv rfl rfl) ?_
    refine sa_take_n 32 rfl rfl rfl rfl (rfl) (by kernel_rfl) .nil ?_
    refine sa_take_n 33 rfl rfl rfl rfl (rfl) (by kernel_rfl) .nil ?_
    refine sa_take_n 34 rfl rfl rfl rfl (rfl) (by kernel_rfl) .nil ?_
    refine sa_take_n 35 rfl rfl rfl rfl (rfl) (by kernel_rfl) .nil ?_
    refine sa_take_y 36 rfl rfl rfl rfl (rfl) (by kernel_rfl) .nil (pu_pk_t rfl rfl (rfl) rfl) ?_
    refine sa_take_y 37 rfl rfl rfl rfl (rfl) (by kernel_rfl) .nil (pu_mv rfl rfl) ?_
    refine sa_take_n 38 rfl rfl rfl rfl (rfl) (by kernel_rfl) .nil ?_
    refine sa_take_n 39 rfl rfl rfl rfl (rfl) (by kernel_rfl) .nil ?_
    refine sa_take_n 40 rfl rfl rfl rfl (rfl) (by kernel_rfl) .nil ?_
    refine sa_take_y 41 rfl rfl rfl rfl (rfl) (by kernel_rfl) .nil (pu_pk_t rfl rfl (rfl) rfl) ?_
    refine sa_take 42 rfl rfl (by kernel_rfl) .nil (pu_pk_t rfl rfl (rfl) rfl) ?_
    refine sa_take 43 rfl rfl (by kernel_rfl) .nil (pu_mv rfl rfl) ?_
    refine sa_take_y 44 rfl rfl rfl rfl (rfl) (by kernel_rfl) .nil (pu_load_rpn rfl rfl ag_40 sz_40 (Nat.le_of_ble_eq_true rfl)) ?_
    refine sa_take_y 45 rfl rfl rfl rfl (rfl) (by kernel_rfl) .nil (pu_load_rpn rfl rfl ag_40 sz_40 (Nat.le_of_ble_eq_true rfl)) ?_
    refine sa_take_y 47 rfl rfl rfl rfl (rfl) (by kernel_rfl) .nil (pu_load_rpn rfl rfl ag_40 sz_40 (Nat.le_of_ble_eq_true rfl)) ?_
    refine sa_take_y 48 rfl rfl rfl rfl (rfl) (by kernel_rfl) .nil (pu_load_rpn rfl rfl ag_40 sz_40 (Nat.le_of_ble_eq_true rfl)) ?_
    refine sa_take_y 51 rfl rfl rfl rfl (rfl) (by kernel_rfl) .nil (pu_load_rpn rfl rfl ag_40 sz_40 (Nat.le_of_ble_eq_true rfl)) ?_
    apply sa_conf [.p 46 (some 93) [] _, .p 49 (some 96) [] _] (I := [(46, []), (49, [])]) (nT := 2) rfl rfl rfl (by kernel_rfl) .nil
    · refine (.cons ?_ (.cons ?_ .nil))
      · apply StepOk.p
        iterate 3 rfl
        intro β σX hσX
        refine sl_guard_y rfl rfl rfl (rfl) ?_
        refine sl_callp rfl rfl cal_19 ((leC X Y (by omega) (by omega))) ?_ ?_
        · repeat constructor
        exact sl_nil ⟨rfl, rfl, rfl, rfl⟩
      · apply StepOk.p
        iterate 3 rfl
        intro β σX hσX
        refine sl_guard_y rfl rfl rfl (rfl) ?_
        refine sl_bsn ([ptV X, ptV Y]) rfl rfl (.cons rfl (.cons rfl .nil)) u_37 sz_40 zs_40 (by decide) rfl rfl rfl (SzI.get (by repeat constructor)) ?_
        exact sl_nil ⟨rfl, rfl, rfl, rfl⟩
    refine contT_p (contT_p (contT_nil ?_))
    refine sa_one 50 (by kernel_rfl) rfl ?_
    refine sl_guard_y rfl rfl rfl (rfl) ?_
    refine sl_callp rfl rfl cal_17 ((joinC [X, Y] U hU.symm (fits2 (by omega) (by omega)))) ?_ ?_
    · repeat constructor
    refine sl_nil ⟨.nil, ?_⟩
    refine sa_one 52 (by kernel_rfl) rfl ?_
    refine sl_guard_y rfl rfl rfl (rfl) ?_
    refine sl_callp rfl rfl cal_16 ((eqC U Y (by omega))) ?_ ?_
    · repeat constructor
    refine sl_nil ⟨.nil, ?_⟩
    refine sa_take_y 53 rfl rfl rfl rfl (rfl) (by kernel_rfl) .nil (pu_bool_eq rfl rfl rfl u_4) ?_
    refine sa_set 100 (.val (.bool true)) (val_tt (by rw [hU, order_joinP hYs]; exact self_tt)) ?_
    refine sa_take 54 rfl rfl (by kernel_rfl) .nil (pu_pk_t rfl rfl (rfl) rfl) ?_
    refine sa_one 55 (by kernel_rfl) rfl ?_
    refine sl_as rfl rfl rfl ?_
    refine sl_nil ⟨.nil, ?_⟩
    refine sa_done (by kernel_rfl) ?_
    refine sw_ret ⟨rfl, _, _, res_one rfl rfl, ?_, ⟨rfl, rfl⟩⟩
    repeat constructor
  have k1 : leqP X Y = true := by simpa using g1
  refine sa_take_y 15 rfl rfl rfl rfl g1 (by kernel_rfl) .nil (pu_load_rpn rfl rfl ag_40 sz_40 (Nat.le_of_ble_eq_true rfl)) ?_
  refine sa_take_y 16 rfl rfl rfl rfl g1 (by kernel_rfl) .nil (pu_load_rpn rfl rfl ag_40 sz_40 (Nat.le_of_ble_eq_true rfl)) ?_
  refine sa_one 17 (by kernel_rfl) rfl ?_
  refine sl_guard_y rfl rfl rfl g1 ?_
  refine sl_callp rfl rfl cal_19 ((leC Y X (by omega) (by omega))) ?_ ?_
  · repeat constructor
  refine sl_nil ⟨.nil, ?_⟩
  refine sa_take_y 18 rfl rfl rfl rfl g1 (by kernel_rfl) .nil (pu_not rfl rfl) ?_
  refine sa_take_y 19 rfl rfl rfl rfl (rfl) (by kernel_rfl) .nil (pu_pk_f rfl rfl g1 rfl) ?_
  refine sa_take_y 20 rfl rfl rfl rfl (rfl) (by kernel_rfl) .nil (pu_mv rfl rfl) ?_
  refine sa_case_at 67 rfl (fun g2 => ?_) (fun g2 => ?_)
  · refine sa_take_n 21 rfl rfl rfl rfl g2 (by kernel_rfl) .nil ?_
    refine sa_take_n 22 rfl rfl rfl rfl g2 (by kernel_rfl) .nil ?_
    refine sa_take_n 23 rfl rfl rfl rfl g2 (by kernel_rfl) .nil ?_
    refine sa_take_y 24 rfl rfl rfl rfl (rfl) (by kernel_rfl) .nil (pu_pk_t rfl rfl g2 rfl) ?_
    refine sa_take 25 rfl rfl (by kernel_rfl) .nil (pu_pk_t rfl rfl (rfl) rfl) ?_
    refine sa_take 26 rfl rfl (by kernel_rfl) .nil (pu_mv rfl rfl) ?_
    refine sa_take_y 27 rfl rfl rfl rfl (rfl) (by kernel_rfl) .nil (pu_load_rpn rfl rfl ag_40 sz_40 (Nat.le_of_ble_eq_true rfl)) ?_
    refine sa_take_y 28 rfl rfl rfl rfl (rfl) (by kernel_rfl) .nil (pu_load_rpn rfl rfl ag_40 sz_40 (Nat.le_of_ble_eq_true rfl)) ?_
    refine sa_one 29 (by kernel_rfl) rfl ?_
    refine sl_guard_y rfl rfl rfl (rfl) ?_
    refine sl_callp rfl rfl cal_19 ((leC X Y (by omega) (by omega))) ?_ ?_
    · repeat constructor
    refine sl_nil ⟨.nil, ?_⟩
    refine sa_take_y 30 rfl rfl rfl rfl (rfl) (by kernel_rfl) .nil (pu_not rfl rfl) ?_
    refine sa_set 77 (.val (.bool false)) (not_tt' k1) ?_
    refine sa_take_y 31 rfl rfl rfl rfl (rfl) (by kernel_rfl) .nil (pu_mv rfl rfl) ?_
    refine sa_take_y 32 rfl rfl rfl rfl (rfl) (by kernel_rfl) .nil (pu_load_rpn rfl rfl ag_40 sz_40 (Nat.le_of_ble_eq_true rfl)) ?_
    refine sa_take_y 33 rfl rfl rfl rfl (rfl) (by kernel_rfl) .nil (pu_load_rpn rfl rfl ag_40 sz_40 (Nat.le_of_ble_eq_true rfl)) ?_
    refine sa_one 34 (by kernel_rfl) rfl ?_
    refine sl_guard_y rfl rfl rfl (rfl) ?_
    refine sl_callp rfl rfl cal_19 ((leC Y Z (by omega) (by omega))) ?_ ?_
    · repeat constructor
    refine sl_nil ⟨.nil, ?_⟩
    refine sa_take_y 35 rfl rfl rfl rfl (rfl) (by kernel_rfl) .nil (pu_not rfl rfl) ?_
    refine sa_take_y 36 rfl rfl rfl rfl (rfl) (by kernel_rfl) .nil (pu_pk_f rfl rfl (rfl) rfl) ?_
    refine sa_take_y 37 rfl rfl rfl rfl (rfl) (by kernel_rfl) .nil (pu_mv rfl rfl) ?_
    refine sa_case_at 84 rfl (fun g3 => ?_) (fun g3 => ?_)
    · refine sa_take_n 38 rfl rfl rfl rfl g3 (by kernel_rfl) .nil ?_
      refine sa_take_n 39 rfl rfl rfl rfl g3 (by kernel_rfl) .nil ?_
      refine sa_take_n 40 rfl rfl rfl rfl g3 (by kernel_rfl) .nil ?_
      refine sa_take_y 41 rfl rfl rfl rfl (rfl) (by kernel_rfl) .nil (pu_pk_t rfl rfl g3 rfl) ?_
      refine sa_take 42 rfl rfl (by kernel_rfl) .nil (pu_pk_t rfl rfl (rfl) rfl) ?_
      refine sa_take 43 rfl rfl (by kernel_rfl) .nil (pu_mv rfl rfl) ?_
      refine sa_take_y 44 rfl rfl rfl rfl (rfl) (by kernel_rfl) .nil (pu_load_rpn rfl rfl ag_40 sz_40 (Nat.le_of_ble_eq_true rfl)) ?_
      refine sa_take_y 45 rfl rfl rfl rfl (rfl) (by kernel_rfl) .nil (pu_load_rpn rfl rfl ag_40 sz_40 (Nat.le_of_ble_eq_true rfl)) ?_
      refine sa_take_y 47 rfl rfl rfl rfl (rfl) (by kernel_rfl) .nil (pu_load_rpn rfl rfl ag_40 sz_40 (Nat.le_of_ble_eq_true rfl)) ?_
      refine sa_take_y 48 rfl rfl rfl rfl (rfl) (by kernel_rfl) .nil (pu_load_rpn rfl rfl ag_40 sz_40 (Nat.le_of_ble_eq_true rfl)) ?_
      refine sa_take_y 51 rfl rfl rfl rfl (rfl) (by kernel_rfl) .nil (pu_load_rpn rfl rfl ag_40 sz_40 (Nat.le_of_ble_eq_true rfl)) ?_
      apply sa_conf [.p 46 (some 93) [] _, .p 49 (some 96) [] _] (I := [(46, []), (49, [])]) (nT := 2) rfl rfl rfl (by kernel_rfl) .nil
      · refine (.cons ?_ (.cons ?_ .nil))
        · apply StepOk.p
          iterate 3 rfl
          intro β σX hσX
          refine sl_guard_y rfl rfl rfl (rfl) ?_
          refine sl_callp rfl rfl cal_19 ((leC X Y (by omega) (by omega))) ?_ ?_
          · repeat constructor
          exact sl_nil ⟨rfl, rfl, rfl, rfl⟩
        · apply StepOk.p
          iterate 3 rfl
          intro β σX hσX
          refine sl_guard_y rfl rfl rfl (rfl) ?_
          refine sl_bsn ([ptV X, ptV Y]) rfl rfl (.cons rfl (.cons rfl .nil)) u_37 sz_40 zs_40 (by decide) rfl rfl rfl (SzI.get (by repeat constructor)) ?_
          exact sl_nil ⟨rfl, rfl, rfl, rfl⟩
      refine contT_p (contT_p (contT_nil ?_))
      refine sa_one 50 (by kernel_rfl) rfl ?_
      refine sl_guard_y rfl rfl rfl (rfl) ?_
      refine sl_callp rfl rfl cal_17 ((joinC [X, Y] U hU.symm (fits2 (by omega) (by omega)))) ?_ ?_
      · repeat constructor
      refine sl_nil ⟨.nil, ?_⟩
      refine sa_one 52 (by kernel_rfl) rfl ?_
      refine sl_guard_y rfl rfl rfl (rfl) ?_
      refine sl_callp rfl rfl cal_16 ((eqC U Y (by omega))) ?_ ?_
      · repeat constructor
      refine sl_nil ⟨.nil, ?_⟩
      refine sa_take_y 53 rfl rfl rfl rfl (rfl) (by kernel_rfl) .nil (pu_bool_eq rfl rfl rfl u_4) ?_
      refine sa_set 100 (.val (.bool true)) (val_tt (by rw [hU, order_joinP hYs]; exact self_tt)) ?_
      refine sa_take 54 rfl rfl (by kernel_rfl) .nil (pu_pk_t rfl rfl (rfl) rfl) ?_
      refine sa_one 55 (by kernel_rfl) rfl ?_
      refine sl_as rfl rfl rfl ?_
      refine sl_nil ⟨.nil, ?_⟩
      refine sa_done (by kernel_rfl) ?_
      refine sw_ret ⟨rfl, _, _, res_one rfl rfl, ?_, ⟨rfl, rfl⟩⟩
      repeat constructor
    have k3 : leqP Y Z = true := by simpa using g3
    refine sa_take_y 38 rfl rfl rfl rfl g3 (by kernel_rfl) .nil (pu_load_rpn rfl rfl ag_40 sz_40 (Nat.le_of_ble_eq_true rfl)) ?_
    refine sa_take_y 39 rfl rfl rfl rfl g3 (by kernel_rfl) .nil (pu_load_rpn rfl rfl ag_40 sz_40 (Nat.le_of_ble_eq_true rfl)) ?_
    refine sa_one 40 (by kernel_rfl) rfl ?_
    refine sl_guard_y rfl rfl rfl g3 ?_
    refine sl_callp rfl rfl cal_19 ((leC X Z (by omega) (by omega))) ?_ ?_
    · repeat constructor
    refine sl_nil ⟨.nil, ?_⟩
    refine sa_set 87 (.val (.bool true)) (val_tt (leq_trans k1 k3)) ?_
    refine sa_take_y 41 rfl rfl rfl rfl (rfl) (by kernel_rfl) .nil (pu_pk_f rfl rfl g3 rfl) ?_
    refine sa_take 42 rfl rfl (by kernel_rfl) .nil (pu_pk_t rfl rfl (rfl) rfl) ?_
    refine sa_take 43 rfl rfl (by kernel_rfl) .nil (pu_mv rfl rfl) ?_
    refine sa_take_y 44 rfl rfl rfl rfl (rfl) (by kernel_rfl) .nil (pu_load_rpn rfl rfl ag_40 sz_40 (Nat.le_of_ble_eq_true rfl)) ?_
    refine sa_take_y 45 rfl rfl rfl rfl (rfl) (by kernel_rfl) .nil (pu_load_rpn rfl rfl ag_40 sz_40 (Nat.le_of_ble_eq_true rfl)) ?_
    refine sa_take_y 47 rfl rfl rfl rfl (rfl) (by kernel_rfl) .nil (pu_load_rpn rfl rfl ag_40 sz_40 (Nat.le_of_ble_eq_true rfl)) ?_
    refine sa_take_y 48 rfl rfl rfl rfl (rfl) (by kernel_rfl) .nil (pu_load_rpn rfl rfl ag_40 sz_40 (Nat.le_of_ble_eq_true rfl)) ?_
    refine sa_take_y 51 rfl rfl rfl rfl (rfl) (by kernel_rfl) .nil (pu_load_rpn rfl rfl ag_40 sz_40 (Nat.le_of_ble_eq_true rfl)) ?_
    apply sa_conf [.p 46 (some 93) [] _, .p 49 (some 96) [] _] (I := [(46, []), (49, [])]) (nT := 2) rfl rfl rfl (by kernel_rfl) .nil
    · refine (.cons ?_ (.cons ?_ .nil))
      · apply StepOk.p
        iterate 3 rfl
        intro β σX hσX
        refine sl_guard_y rfl rfl rfl (rfl) ?_
        refine sl_callp rfl rfl cal_19 ((leC X Y (by omega) (by omega))) ?_ ?_
        · repeat constructor
        exact sl_nil ⟨rfl, rfl, rfl, rfl⟩
      · apply StepOk.p
        iterate 3 rfl
        intro β σX hσX
        refine sl_guard_y rfl rfl rfl (rfl) ?_
        refine sl_bsn ([ptV X, ptV Y]) rfl rfl (.cons rfl (.cons rfl .nil)) u_37 sz_40 zs_40 (by decide) rfl rfl rfl (SzI.get (by repeat constructor)) ?_
        exact sl_nil ⟨rfl, rfl, rfl, rfl⟩
    refine contT_p (contT_p (contT_nil ?_))
    refine sa_one 50 (by kernel_rfl) rfl ?_
    refine sl_guard_y rfl rfl rfl (rfl) ?_
    refine sl_callp rfl rfl cal_17 ((joinC [X, Y] U hU.symm (fits2 (by omega) (by omega)))) ?_ ?_
    · repeat constructor
    refine sl_nil ⟨.nil, ?_⟩
    refine sa_one 52 (by kernel_rfl) rfl ?_
    refine sl_guard_y rfl rfl rfl (rfl) ?_
    refine sl_callp rfl rfl cal_16 ((eqC U Y (by omega))) ?_ ?_
    · repeat constructor
    refine sl_nil ⟨.nil, ?_⟩
    refine sa_take_y 53 rfl rfl rfl rfl (rfl) (by kernel_rfl) .nil (pu_bool_eq rfl rfl rfl u_4) ?_
    refine sa_set 100 (.val (.bool true)) (val_tt (by rw [hU, order_joinP hYs]; exact self_tt)) ?_
    refine sa_take 54 rfl rfl (by kernel_rfl) .nil (pu_pk_t rfl rfl (rfl) rfl) ?_
    refine sa_one 55 (by kernel_rfl) rfl ?_
    refine sl_as rfl rfl rfl ?_
    refine sl_nil ⟨.nil, ?_⟩
    refine sa_done (by kernel_rfl) ?_
    refine sw_ret ⟨rfl, _, _, res_one rfl rfl, ?_, ⟨rfl, rfl⟩⟩
    repeat constructor
  have k2 : leqP Y X = true := by simpa using g2
  refine sa_take_y 21 rfl rfl rfl rfl g2 (by kernel_rfl) .nil (pu_load_rpn rfl rfl ag_40 sz_40 (Nat.le_of_ble_eq_true rfl)) ?_
  refine sa_take_y 22 rfl rfl rfl rfl g2 (by kernel_rfl) .nil (pu_load_rpn rfl rfl ag_40 sz_40 (Nat.le_of_ble_eq_true rfl)) ?_
  refine sa_one 23 (by kernel_rfl) rfl ?_
  refine sl_guard_y rfl rfl rfl g2 ?_
  refine sl_callp rfl rfl cal_16 ((eqC X Y (by omega))) ?_ ?_
  · repeat constructor
  refine sl_nil ⟨.nil, ?_⟩
  refine sa_set 70 (.val (.bool true)) (val_tt (decide_eq_true (leq_anti hXs hYs k1 k2))) ?_
  refine sa_take_y 24 rfl rfl rfl rfl (rfl) (by kernel_rfl) .nil (pu_pk_f rfl rfl g2 rfl) ?_
  refine sa_take 25 rfl rfl (by kernel_rfl) .nil (pu_pk_t rfl rfl (rfl) rfl) ?_
  refine sa_take 26 rfl rfl (by kernel_rfl) .nil (pu_mv rfl rfl) ?_
  refine sa_take_y 27 rfl rfl rfl rfl (rfl) (by kernel_rfl) .nil (pu_load_rpn rfl rfl ag_40 sz_40 (Nat.le_of_ble_eq_true rfl)) ?_
  refine sa_take_y 28 rfl rfl rfl rfl (rfl) (by kernel_rfl) .nil (pu_load_rpn rfl rfl ag_40 sz_40 (Nat.le_of_ble_eq_true rfl)) ?_
  refine sa_one 29 (by kernel_rfl) rfl ?_
  refine sl_guard_y rfl rfl rfl (rfl) ?_
  refine sl_callp rfl rfl cal_19 ((leC X Y (by omega) (by omega))) ?_ ?_
  · repeat constructor
  refine sl_nil ⟨.nil, ?_⟩
  refine sa_take_y 30 rfl rfl rfl rfl (rfl) (by kernel_rfl) .nil (pu_not rfl rfl) ?_
  refine sa_set 77 (.val (.bool false)) (not_tt' k1) ?_
  refine sa_take_y 31 rfl rfl rfl rfl (rfl) (by kernel_rfl) .nil (pu_mv rfl rfl) ?_
  refine sa_take_y 32 rfl rfl rfl rfl (rfl) (by kernel_rfl) .nil (pu_load_rpn rfl rfl ag_40 sz_40 (Nat.le_of_ble_eq_true rfl)) ?_
  refine sa_take_y 33 rfl rfl rfl rfl (rfl) (by kernel_rfl) .nil (pu_load_rpn rfl rfl ag_40 sz_40 (Nat.le_of_ble_eq_true rfl)) ?_
  refine sa_one 34 (by kernel_rfl) rfl ?_
  refine sl_guard_y rfl rfl rfl (rfl) ?_
  refine sl_callp rfl rfl cal_19 ((leC Y Z (by omega) (by omega))) ?_ ?_
  · repeat constructor
  refine sl_nil ⟨.nil, ?_⟩
  refine sa_take_y 35 rfl rfl rfl rfl (rfl) (by kernel_rfl) .nil (pu_not rfl rfl) ?_
  refine sa_take_y 36 rfl rfl rfl rfl (rfl) (by kernel_rfl) .nil (pu_pk_f rfl rfl (rfl) rfl) ?_
  refine sa_take_y 37 rfl rfl rfl rfl (rfl) (by kernel_rfl) .nil (pu_mv rfl rfl) ?_
  refine sa_case_at 84 rfl (fun g3 => ?_) (fun g3 => ?_)
  · refine sa_take_n 38 rfl rfl rfl rfl g3 (by kernel_rfl) .nil ?_
    refine sa_take_n 39 rfl rfl rfl rfl g3 (by kernel_rfl) .nil ?_
    refine sa_take_n 40 rfl rfl rfl rfl g3 (by kernel_rfl) .nil ?_
    refine sa_take_y 41 rfl rfl rfl rfl (rfl) (by kernel_rfl) .nil (pu_pk_t rfl rfl g3 rfl) ?_
    refine sa_take 42 rfl rfl (by kernel_rfl) .nil (pu_pk_t rfl rfl (rfl) rfl) ?_
    refine sa_take 43 rfl rfl (by kernel_rfl) .nil (pu_mv rfl rfl) ?_
    refine sa_take_y 44 rfl rfl rfl rfl (rfl) (by kernel_rfl) .nil (pu_load_rpn rfl rfl ag_40 sz_40 (Nat.le_of_ble_eq_true rfl)) ?_
    refine sa_take_y 45 rfl rfl rfl rfl (rfl) (by kernel_rfl) .nil (pu_load_rpn rfl rfl ag_40 sz_40 (Nat.le_of_ble_eq_true rfl)) ?_
    refine sa_take_y 47 rfl rfl rfl rfl (rfl) (by kernel_rfl) .nil (pu_load_rpn rfl rfl ag_40 sz_40 (Nat.le_of_ble_eq_true rfl)) ?_
    refine sa_take_y 48 rfl rfl rfl rfl (rfl) (by kernel_rfl) .nil (pu_load_rpn rfl rfl ag_40 sz_40 (Nat.le_of_ble_eq_true rfl)) ?_
    refine sa_take_y 51 rfl rfl rfl rfl (rfl) (by kernel_rfl) .nil (pu_load_rpn rfl rfl ag_40 sz_40 (Nat.le_of_ble_eq_true rfl)) ?_
    apply sa_conf [.p 46 (some 93) [] _, .p 49 (some 96) [] _] (I := [(46, []), (49, [])]) (nT := 2) rfl rfl rfl (by kernel_rfl) .nil
    · refine (.cons ?_ (.cons ?_ .nil))
      · apply StepOk.p
        iterate 3 rfl
        intro β σX hσX
        refine sl_guard_y rfl rfl rfl (rfl) ?_
        refine sl_callp rfl rfl cal_19 ((leC X Y (by omega) (by omega))) ?_ ?_
        · repeat constructor
        exact sl_nil ⟨rfl, rfl, rfl, rfl⟩
      · apply StepOk.p
        iterate 3 rfl
        intro β σX hσX
        refine sl_guard_y rfl rfl rfl (rfl) ?_
        refine sl_bsn ([ptV X, ptV Y]) rfl rfl (.cons rfl (.cons rfl .nil)) u_37 sz_40 zs_40 (by decide) rfl rfl rfl (SzI.get (by repeat constructor)) ?_
        exact sl_nil ⟨rfl, rfl, rfl, rfl⟩
    refine contT_p (contT_p (contT_nil ?_))
    refine sa_one 50 (by kernel_rfl) rfl ?_
    refine sl_guard_y rfl rfl rfl (rfl) ?_
    refine sl_callp rfl rfl cal_17 ((joinC [X, Y] U hU.symm (fits2 (by omega) (by omega)))) ?_ ?_
    · repeat constructor
    refine sl_nil ⟨.nil, ?_⟩
    refine sa_one 52 (by kernel_rfl) rfl ?_
    refine sl_guard_y rfl rfl rfl (rfl) ?_
    refine sl_callp rfl rfl cal_16 ((eqC U Y (by omega))) ?_ ?_
    · repeat constructor
    refine sl_nil ⟨.nil, ?_⟩
    refine sa_take_y 53 rfl rfl rfl rfl (rfl) (by kernel_rfl) .nil (pu_bool_eq rfl rfl rfl u_4) ?_
    refine sa_set 100 (.val (.bool true)) (val_tt (by rw [hU, order_joinP hYs]; exact self_tt)) ?_
    refine sa_take 54 rfl rfl (by kernel_rfl) .nil (pu_pk_t rfl rfl (rfl) rfl) ?_
    refine sa_one 55 (by kernel_rfl) rfl ?_
    refine sl_as rfl rfl rfl ?_
    refine sl_nil ⟨.nil, ?_⟩
    refine sa_done (by kernel_rfl) ?_
    refine sw_ret ⟨rfl, _, _, res_one rfl rfl, ?_, ⟨rfl, rfl⟩⟩
    repeat constructor
  have k3 : leqP Y Z = true := by simpa using g3
  refine sa_take_y 38 rfl rfl rfl rfl g3 (by kernel_rfl) .nil (pu_load_rpn rfl rfl ag_40 sz_40 (Nat.le_of_ble_eq_true rfl)) ?_
  refine sa_take_y 39 rfl rfl rfl rfl g3 (by kernel_rfl) .nil (pu_load_rpn rfl rfl ag_40 sz_40 (Nat.le_of_ble_eq_true rfl)) ?_
  refine sa_one 40 (by kernel_rfl) rfl ?_
  refine sl_guard_y rfl rfl rfl g3 ?_
  refine sl_callp rfl rfl cal_19 ((leC X Z (by omega) (by omega))) ?_ ?_
  · repeat constructor
  refine sl_nil ⟨.nil, ?_⟩
  refine sa_set 87 (.val (.bool true)) (val_tt (leq_trans k1 k3)) ?_
  refine sa_take_y 41 rfl rfl rfl rfl (rfl) (by kernel_rfl) .nil (pu_pk_f rfl rfl g3 rfl) ?_
  refine sa_take 42 rfl rfl (by kernel_rfl) .nil (pu_pk_t rfl rfl (rfl) rfl) ?_
  refine sa_take 43 rfl rfl (by kernel_rfl) .nil (pu_mv rfl rfl) ?_
  refine sa_take_y 44 rfl rfl rfl rfl (rfl) (by kernel_rfl) .nil (pu_load_rpn rfl rfl ag_40 sz_40 (Nat.le_of_ble_eq_true rfl)) ?_
  refine sa_take_y 45 rfl rfl rfl rfl (rfl) (by kernel_rfl) .nil (pu_load_rpn rfl rfl ag_40 sz_40 (Nat.le_of_ble_eq_true rfl)) ?_
  refine sa_take_y 47 rfl rfl rfl rfl (rfl) (by kernel_rfl) .nil (pu_load_rpn rfl rfl ag_40 sz_40 (Nat.le_of_ble_eq_true rfl)) ?_
  refine sa_take_y 48 rfl rfl rfl rfl (rfl) (by kernel_rfl) .nil (pu_load_rpn rfl rfl ag_40 sz_40 (Nat.le_of_ble_eq_true rfl)) ?_
  refine sa_take_y 51 rfl rfl rfl rfl (rfl) (by kernel_rfl) .nil (pu_load_rpn rfl rfl ag_40 sz_40 (Nat.le_of_ble_eq_true rfl)) ?_
  apply sa_conf [.p 46 (some 93) [] _, .p 49 (some 96) [] _] (I := [(46, []), (49, [])]) (nT := 2) rfl rfl rfl (by kernel_rfl) .nil
  · refine (.cons ?_ (.cons ?_ .nil))
    · apply StepOk.p
      iterate 3 rfl
      intro β σX hσX
      refine sl_guard_y rfl rfl rfl (rfl) ?_
      refine sl_callp rfl rfl cal_19 ((leC X Y (by omega) (by omega))) ?_ ?_
      · repeat constructor
      exact sl_nil ⟨rfl, rfl, rfl, rfl⟩
    · apply StepOk.p
      iterate 3 rfl
      intro β σX hσX
      refine sl_guard_y rfl rfl rfl (rfl) ?_
      refine sl_bsn ([ptV X, ptV Y]) rfl rfl (.cons rfl (.cons rfl .nil)) u_37 sz_40 zs_40 (by decide) rfl rfl rfl (SzI.get (by repeat constructor)) ?_
      exact sl_nil ⟨rfl, rfl, rfl, rfl⟩
  refine contT_p (contT_p (contT_nil ?_))
  refine sa_one 50 (by kernel_rfl) rfl ?_
  refine sl_guard_y rfl rfl rfl (rfl) ?_
  refine sl_callp rfl rfl cal_17 ((joinC [X, Y] U hU.symm (fits2 (by omega) (by omega)))) ?_ ?_
  · repeat constructor
  refine sl_nil ⟨.nil, ?_⟩
  refine sa_one 52 (by kernel_rfl) rfl ?_
  refine sl_guard_y rfl rfl rfl (rfl) ?_
  refine sl_callp rfl rfl cal_16 ((eqC U Y (by omega))) ?_ ?_
  · repeat constructor
  refine sl_nil ⟨.nil, ?_⟩
  refine sa_take_y 53 rfl rfl rfl rfl (rfl) (by kernel_rfl) .nil (pu_bool_eq rfl rfl rfl u_4) ?_
  refine sa_set 100 (.val (.bool true)) (val_tt (by rw [hU, order_joinP hYs]; exact self_tt)) ?_
  refine sa_take 54 rfl rfl (by kernel_rfl) .nil (pu_pk_t rfl rfl (rfl) rfl) ?_
  refine sa_one 55 (by kernel_rfl) rfl ?_
  refine sl_as rfl rfl rfl ?_
  refine sl_nil ⟨.nil, ?_⟩
  refine sa_done (by kernel_rfl) ?_
  refine sw_ret ⟨rfl, _, _, res_one rfl rfl, ?_, ⟨rfl, rfl⟩⟩
  repeat constructor

end Go.Proofs.Ytipacoopapjdpaa

/- Walks: printed by a program of this session out of its script PtsK. -/
namespace Go.Proofs.Ytipacoopapjdpaa
set_option linter.unusedVariables false
set_option linter.unusedSimpArgs false
set_option maxRecDepth 4000
set_option maxHeartbeats 4000000
open Go Go.RowKit SL


theorem one_norm (x : Txt) : normL [x] = [x] := normL_of_strict (by simp [Strict])
theorem leq_one {x : Txt} {q : Pt} (h : x ∈ q.cells) : leqP ⟨false, [x]⟩ q = true := leqP_iff.mpr ⟨fun h => by simp at h, fun y hy => by rw [List.mem_singleton.mp hy]; exact h⟩

/-- PtsParts. -/
theorem ptsParts_ok (l : List Txt) (p : Pt) : FSpec Try.prog 7 [.val (.list (l.map strV)), .val (ptV p)] [] (fun d σ' => d = .val (.bool true) ∧ σ' = []) := by
  refine spec_of_sw Try.func7 rfl ?_
  refine sw_seq ?_
  refine sl_region ?_
  refine sl_bx_imm rfl rfl rfl rfl rfl ?_
  refine sl_as rfl rfl rfl ?_
  refine sl_nil ?_
  refine sw_seq ?_
  refine sw_seq ?_
  refine sl_region ?_
  refine sl_callp rfl rfl cal_13 (known14_ok) ?_ ?_
  · repeat constructor
  refine sl_not rfl rfl rfl ?_
  refine sl_nil ?_
  refine sw_false rfl (rfl) ?_
  refine sw_skip ?_
  refine sw_seq ?_
  refine sw_seq ?_
  refine sl_region ?_
  refine sl_mv rfl rfl rfl ?_
  first
    | refine sl_len rfl rfl rfl ⟨_, u_38⟩ ?_
    | refine sl_len_sl rfl rfl rfl ⟨_, u_38⟩ ?_
    | refine sl_len_w _ rfl rfl rfl ⟨_, u_38⟩ ?_
  refine sl_bin rfl rfl rfl rfl rfl ?_
  refine sl_mv rfl rfl rfl ?_
  refine sl_case_at 13 rfl (fun g0 => ?_) (fun g0 => ?_)
  · refine sl_guard_n rfl rfl rfl g0 ?_
    refine sl_guard_n rfl rfl rfl g0 ?_
    refine sl_guard_n rfl rfl rfl g0 ?_
    refine sl_guard_n rfl rfl rfl g0 ?_
    refine sl_guard_n rfl rfl rfl g0 ?_
    refine sl_guard_n rfl rfl rfl g0 ?_
    refine sl_pk_t rfl rfl rfl g0 rfl ?_
    refine sl_nil ?_
    refine sw_true rfl (rfl) ?_
    refine sw_seq ?_
    refine sl_region ?_
    refine sl_as rfl rfl rfl ?_
    refine sl_nil ?_
    refine sw_ret ⟨rfl, _, _, res_one rfl rfl, ?_, ⟨rfl, rfl⟩⟩
    repeat constructor
  have hl : l.length ≤ 10 := by have := of_decide_eq_false g0; simp only [List.length_map] at this; omega
  refine sl_guard_y rfl rfl rfl g0 ?_
  first
    | refine sl_load_rpn rfl rfl rfl ag_40 sz_40 (Nat.le_of_ble_eq_true rfl) ?_
    | refine sl_load_blkn rfl rfl rfl ag_40 sz_40 (by repeat constructor) (Nat.le_of_ble_eq_true rfl) ?_
    | refine sl_load_ref rfl rfl rfl ag_40 sz_40 (Nat.le_of_ble_eq_true rfl) ?_
  refine sl_guard_y rfl rfl rfl g0 ?_
  refine sl_mv rfl rfl rfl ?_
  refine sl_guard_y rfl rfl rfl g0 ?_
  refine sl_bd rfl rfl (.cons rfl .nil) bi_40 zd_40 rfl ?_
  refine sl_guard_y rfl rfl rfl g0 ?_
  refine sl_bsn ([ptV p, ptV ⟨false, l⟩]) rfl rfl (.cons rfl (.cons rfl .nil)) u_37 sz_40 zs_40 (by decide) rfl rfl rfl (SzI.get (by repeat constructor)) ?_
  refine sl_guard_y rfl rfl rfl g0 ?_
  refine sl_callp rfl rfl cal_14 (light_ok [p, ⟨false, l⟩]) ?_ ?_
  · repeat constructor
  refine sl_guard_y rfl rfl rfl g0 ?_
  refine sl_not rfl rfl rfl ?_
  refine sl_pk_f rfl rfl rfl g0 rfl ?_
  refine sl_nil ?_
  refine sw_cond rfl (fun g1 => ?_) (fun g1 => ?_)
  · refine sw_seq ?_
    refine sl_region ?_
    refine sl_as rfl rfl rfl ?_
    refine sl_nil ?_
    refine sw_ret ⟨rfl, _, _, res_one rfl rfl, ?_, ⟨rfl, rfl⟩⟩
    repeat constructor
  have hlp : lightL [p, ⟨false, l⟩] = true := by simpa using g1
  have hp : p.cells.length ≤ 10 := (lightP_iff.mp ((lightL_iff.mp hlp).2 p (by simp))).1
  obtain ⟨N, hN⟩ : ∃ x, x = normL l := ⟨_, rfl⟩
  have hNl : N.length ≤ 10 := by rw [hN]; exact Nat.le_trans (normL_len _) hl
  have hNs : normL N = N := by rw [hN]; exact normL_of_strict (normL_strict _)
  obtain ⟨A, hA⟩ : ∃ x, x = (⟨true, N⟩ : Pt) := ⟨_, rfl⟩
  have hAl : A.cells.length ≤ 10 := by rw [hA]; exact hNl
  obtain ⟨J, hJ⟩ : ∃ x, x = joinP [p, A] := ⟨_, rfl⟩
  have hJl : J.cells.length ≤ p.cells.length + l.length := by rw [hJ]; exact join_small (Nat.le_refl _) (by rw [hA]; show N.length ≤ _; rw [hN]; exact normL_len _)
  have hJn : J.null = true := by rw [hJ, hA]; show (p.null || (true || false)) = true; simp
  have cA : ∀ σ, FSpec Try.prog 28 [.val (.list (l.map strV))] σ (fun d σ' => d = .val (ptV A) ∧ σ' = σ) := fun σ => hA ▸ anyC l N hN.symm (by omega) σ
  refine sw_skip ?_
  refine sw_seq ?_
  refine sl_region ?_
  refine sl_mv rfl rfl rfl ?_
  refine sl_callp rfl rfl cal_28 (cA) ?_ ?_
  · repeat constructor
  refine sl_alloc rfl rfl zd_40 (fun b5 => ?_)
  refine sl_stp rfl rfl rfl rfl sz_40 rfl rfl rfl (by repeat constructor) (Nat.le_of_ble_eq_true rfl) ?_
  refine sl_nil ?_
  refine sw_seq ?_
  refine sw_seq ?_
  refine sw_fz 5 rfl rfl (by repeat constructor) ?_
  have cE : ∀ σ, FSpec Try.prog 24 [.val (ptV A)] σ (fun d σ' => d = .val (ptV ⟨true, []⟩) ∧ σ' = σ) := fun σ => by have := ponly_ok A σ; rw [hA] at this ⊢; exact this
  refine sl_region ?_
  first
    | refine sl_fieldAddr_ptr rfl rfl rfl fo_40_0 ?_
    | refine sl_fieldAddr_rp rfl rfl rfl fo_40_0 ?_
    | refine sl_fieldAddr_ref rfl rfl rfl fo_40_0 ?_
  first
    | refine sl_load_rp1 rfl rfl rfl ag_4 rfl ?_
    | refine sl_load_blk1 rfl rfl rfl ag_4 (by repeat constructor) rfl ?_
  refine sl_not rfl rfl rfl ?_
  refine sl_set 25 (.val (.bool false)) (val_ff (by rw [hA]; rfl)) ?_
  refine sl_mv rfl rfl rfl ?_
  refine sl_guard_y rfl rfl rfl (rfl) ?_
  first
    | refine sl_load_rpn rfl rfl rfl ag_40 sz_40 (Nat.le_of_ble_eq_true rfl) ?_
    | refine sl_load_blkn rfl rfl rfl ag_40 sz_40 (by repeat constructor) (Nat.le_of_ble_eq_true rfl) ?_
    | refine sl_load_ref rfl rfl rfl ag_40 sz_40 (Nat.le_of_ble_eq_true rfl) ?_
  refine sl_guard_y rfl rfl rfl (rfl) ?_
  refine sl_callp rfl rfl cal_21 ((pempty_ok A)) ?_ ?_
  · repeat constructor
  refine sl_set 28 (.val (.bool false)) (val_ff (by rw [hA]; rfl)) ?_
  refine sl_pk_f rfl rfl rfl (rfl) rfl ?_
  refine sl_mv rfl rfl rfl ?_
  refine sl_guard_y rfl rfl rfl (rfl) ?_
  first
    | refine sl_load_rpn rfl rfl rfl ag_40 sz_40 (Nat.le_of_ble_eq_true rfl) ?_
    | refine sl_load_blkn rfl rfl rfl ag_40 sz_40 (by repeat constructor) (Nat.le_of_ble_eq_true rfl) ?_
    | refine sl_load_ref rfl rfl rfl ag_40 sz_40 (Nat.le_of_ble_eq_true rfl) ?_
  refine sl_guard_y rfl rfl rfl (rfl) ?_
  refine sl_callp rfl rfl cal_23 ((noC A N (by rw [hA]; exact hNs) (by omega))) ?_ ?_
  · repeat constructor
  refine sl_guard_y rfl rfl rfl (rfl) ?_
  refine sl_mv rfl rfl rfl ?_
  refine sl_guard_y rfl rfl rfl (rfl) ?_
  refine sl_callp rfl rfl cal_27 ((toC l N hN.symm (by omega))) ?_ ?_
  · repeat constructor
  refine sl_guard_y rfl rfl rfl (rfl) ?_
  refine sl_callp rfl rfl cal_16 ((eqC ⟨false, N⟩ ⟨false, N⟩ (by show N.length ≤ _; omega))) ?_ ?_
  · repeat constructor
  refine sl_guard_y rfl rfl rfl (rfl) ?_
  refine sl_not rfl rfl rfl ?_
  refine sl_set 36 (.val (.bool false)) (not_tt' (dec_self _)) ?_
  refine sl_pk_f rfl rfl rfl (rfl) rfl ?_
  refine sl_mv rfl rfl rfl ?_
  refine sl_guard_y rfl rfl rfl (rfl) ?_
  first
    | refine sl_load_rpn rfl rfl rfl ag_40 sz_40 (Nat.le_of_ble_eq_true rfl) ?_
    | refine sl_load_blkn rfl rfl rfl ag_40 sz_40 (by repeat constructor) (Nat.le_of_ble_eq_true rfl) ?_
    | refine sl_load_ref rfl rfl rfl ag_40 sz_40 (Nat.le_of_ble_eq_true rfl) ?_
  refine sl_guard_y rfl rfl rfl (rfl) ?_
  refine sl_callp rfl rfl cal_24 (cE) ?_ ?_
  · repeat constructor
  refine sl_guard_y rfl rfl rfl (rfl) ?_
  refine sl_callp rfl rfl cal_29 (pnull_ok) ?_ ?_
  · repeat constructor
  refine sl_guard_y rfl rfl rfl (rfl) ?_
  refine sl_callp rfl rfl cal_16 ((eqC ⟨true, []⟩ ⟨true, []⟩ (Nat.zero_le _))) ?_ ?_
  · repeat constructor
  refine sl_guard_y rfl rfl rfl (rfl) ?_
  refine sl_not rfl rfl rfl ?_
  refine sl_set 43 (.val (.bool false)) (not_tt' (dec_self _)) ?_
  refine sl_pk_f rfl rfl rfl (rfl) rfl ?_
  refine sl_nil ?_
  refine sw_false rfl (rfl) ?_
  refine sw_skip ?_
  refine sw_seq ?_
  refine sl_region ?_
  first
    | refine sl_load_rpn rfl rfl rfl ag_40 sz_40 (Nat.le_of_ble_eq_true rfl) ?_
    | refine sl_load_blkn rfl rfl rfl ag_40 sz_40 (by repeat constructor) (Nat.le_of_ble_eq_true rfl) ?_
    | refine sl_load_ref rfl rfl rfl ag_40 sz_40 (Nat.le_of_ble_eq_true rfl) ?_
  first
    | refine sl_load_rpn rfl rfl rfl ag_40 sz_40 (Nat.le_of_ble_eq_true rfl) ?_
    | refine sl_load_blkn rfl rfl rfl ag_40 sz_40 (by repeat constructor) (Nat.le_of_ble_eq_true rfl) ?_
    | refine sl_load_ref rfl rfl rfl ag_40 sz_40 (Nat.le_of_ble_eq_true rfl) ?_
  refine sl_bsn ([ptV p, ptV A]) rfl rfl (.cons rfl (.cons rfl .nil)) u_37 sz_40 zs_40 (by decide) rfl rfl rfl (SzI.get (by repeat constructor)) ?_
  refine sl_callp rfl rfl cal_17 ((joinC [p, A] J hJ.symm (fits2 (by omega) (by omega)))) ?_ ?_
  · repeat constructor
  refine sl_alloc rfl rfl zd_40 (fun b6 => ?_)
  refine sl_stp rfl rfl rfl rfl sz_40 rfl rfl rfl (by repeat constructor) (Nat.le_of_ble_eq_true rfl) ?_
  refine sl_nil ?_
  refine sw_seq ?_
  refine sw_seq ?_
  refine sw_fz 6 rfl rfl (by repeat constructor) ?_
  refine sl_region ?_
  refine sl_as rfl rfl rfl ?_
  refine sl_nil ?_
  refine sw_block ?_
  refine sw_loopw (fun nX sX δX σX => ∃ (k : Nat), (l.length - k) = nX ∧ sX = ⟨99, (.cons 0 (.val (.list (l.map strV))) (.cons 3 (.rp (ptV p).cells) (.cons 5 (.rp (ptV A).cells) (.cons 6 (.rp (ptV J).cells) (.cons 7 (.val (.int .i64 (k : Int))) .nil)))))⟩ ∧ δX = [] ∧ σX = [] ∧ (k ≤ l.length)) ?_ ?_
  · refine ⟨_, _, _, ?_, ?_, 0, rfl, rfl, rfl, rfl, (Nat.zero_le _)⟩
    · exact ⟨rfl, by repeat constructor⟩
    · repeat constructor
  rintro nX sX δX σX ⟨k, rfl, rfl, rfl, rfl, hk0⟩
  refine sw_seq ?_
  refine sw_seq ?_
  refine sl_region ?_
  refine sl_mv rfl rfl rfl ?_
  refine sl_mv rfl rfl rfl ?_
  first
    | refine sl_len rfl rfl rfl ⟨_, u_38⟩ ?_
    | refine sl_len_sl rfl rfl rfl ⟨_, u_38⟩ ?_
    | refine sl_len_w _ rfl rfl rfl ⟨_, u_38⟩ ?_
  refine sl_bin rfl rfl rfl rfl rfl ?_
  refine sl_nil ?_
  refine sw_cond rfl (fun hk => ?_) (fun hk => ?_)
  · have hk : k < l.length := by simpa using hk
    have hxA : l[k] ∈ A.cells := by rw [hA]; show l[k] ∈ N; rw [hN]; exact mem_normL.mpr (List.getElem_mem hk)
    have hxJ : l[k] ∈ J.cells := by rw [hJ]; exact mem_join.mpr ⟨A, by simp, hxA⟩
    refine sw_skip ?_
    refine sw_seq ?_
    refine sw_block ?_
    refine sw_seq ?_
    refine sa_start [] mixed ?_
    refine sa_take 0 rfl rfl (by kernel_rfl) .nil (pu_mv rfl rfl) ?_
    refine sa_take 1 rfl rfl (by kernel_rfl) .nil (pu_mv rfl rfl) ?_
    refine sa_take 2 rfl rfl (by kernel_rfl) .nil (pu_indexAddr rfl rfl rfl u_38 sz_9 (by omega) (idx_map hk) rfl) ?_
    refine sa_take 3 rfl rfl (by kernel_rfl) .nil (pu_load_rp1 rfl rfl ag_9 rfl) ?_
    refine sa_take 6 rfl rfl (by kernel_rfl) .nil (pu_load_rpn rfl rfl ag_40 sz_40 (Nat.le_of_ble_eq_true rfl)) ?_
    refine sa_one 4 (by kernel_rfl) rfl ?_
    refine sl_bs1 rfl rfl (.cons rfl .nil) u_38 sz_9 zs_9 (by decide) rfl rfl rfl rfl ?_
    refine sl_nil ⟨.nil, ?_⟩
    refine sa_one 5 (by kernel_rfl) rfl ?_
    refine sl_callp rfl rfl cal_27 ((toC [l[k]] [l[k]] (one_norm _) (by simp))) ?_ ?_
    · repeat constructor
    refine sl_nil ⟨.nil, ?_⟩
    refine sa_one 7 (by kernel_rfl) rfl ?_
    refine sl_callp rfl rfl cal_19 ((leC ⟨false, [l[k]]⟩ A (by simp) (by omega))) ?_ ?_
    · repeat constructor
    refine sl_nil ⟨.nil, ?_⟩
    refine sa_take 8 rfl rfl (by kernel_rfl) .nil (pu_not rfl rfl) ?_
    refine sa_set 63 (.val (.bool false)) (not_tt' (leq_one hxA)) ?_
    refine sa_take 9 rfl rfl (by kernel_rfl) .nil (pu_mv rfl rfl) ?_
    refine sa_take_y 10 rfl rfl rfl rfl (rfl) (by kernel_rfl) .nil (pu_mv rfl rfl) ?_
    refine sa_take_y 11 rfl rfl rfl rfl (rfl) (by kernel_rfl) .nil (pu_mv rfl rfl) ?_
    refine sa_take_y 12 rfl rfl rfl rfl (rfl) (by kernel_rfl) .nil (pu_indexAddr rfl rfl rfl u_38 sz_9 (by omega) (idx_map hk) rfl) ?_
    refine sa_take_y 13 rfl rfl rfl rfl (rfl) (by kernel_rfl) .nil (pu_load_rp1 rfl rfl ag_9 rfl) ?_
    refine sa_take_y 16 rfl rfl rfl rfl (rfl) (by kernel_rfl) .nil (pu_load_rpn rfl rfl ag_40 sz_40 (Nat.le_of_ble_eq_true rfl)) ?_
    refine sa_one 14 (by kernel_rfl) rfl ?_
    refine sl_guard_y rfl rfl rfl (rfl) ?_
    refine sl_bs1 rfl rfl (.cons rfl .nil) u_38 sz_9 zs_9 (by decide) rfl rfl rfl rfl ?_
    refine sl_nil ⟨.nil, ?_⟩
    refine sa_one 15 (by kernel_rfl) rfl ?_
    refine sl_guard_y rfl rfl rfl (rfl) ?_
    refine sl_callp rfl rfl cal_27 ((toC [l[k]] [l[k]] (one_norm _) (by simp))) ?_ ?_
    · repeat constructor
    refine sl_nil ⟨.nil, ?_⟩
    refine sa_one 17 (by kernel_rfl) rfl ?_
    refine sl_guard_y rfl rfl rfl (rfl) ?_
    refine sl_callp rfl rfl cal_19 ((leC ⟨false, [l[k]]⟩ J (by simp) (by omega))) ?_ ?_
    · repeat constructor
    refine sl_nil ⟨.nil, ?_⟩
    refine sa_take_y 18 rfl rfl rfl rfl (rfl) (by kernel_rfl) .nil (pu_not rfl rfl) ?_
    refine sa_set 73 (.val (.bool false)) (not_tt' (leq_one hxJ)) ?_
    refine sa_take 19 rfl rfl (by kernel_rfl) .nil (pu_pk_f rfl rfl (rfl) rfl) ?_
    refine sa_done (by kernel_rfl) ?_
    refine sw_false rfl (rfl) ?_
    refine sw_skip ?_
    refine sl_region ?_
    refine sl_mv rfl rfl rfl ?_
    first
      | refine sl_inc rfl rfl rfl rfl (by omega) ?_
      | refine sl_add rfl rfl rfl rfl (by constructor <;> omega) ?_
      | refine sl_bin rfl rfl rfl rfl rfl ?_
    refine sl_as rfl rfl rfl ?_
    refine sl_nil ?_
    refine ⟨_, by omega, _, _, ?_, ?_, k + 1, rfl, rfl, rfl, rfl, (by omega)⟩
    · exact ⟨rfl, by repeat constructor⟩
    · repeat constructor
  have e1 : (l.map strV).length = l.length := List.length_map ..
  have e2 : (p.cells.map strV).length = p.cells.length := List.length_map ..
  refine sw_exit ?_
  refine sw_seq ?_
  refine sl_region ?_
  first
    | refine sl_fieldAddr_ptr rfl rfl rfl fo_40_0 ?_
    | refine sl_fieldAddr_rp rfl rfl rfl fo_40_0 ?_
    | refine sl_fieldAddr_ref rfl rfl rfl fo_40_0 ?_
  first
    | refine sl_load_rp1 rfl rfl rfl ag_4 rfl ?_
    | refine sl_load_blk1 rfl rfl rfl ag_4 (by repeat constructor) rfl ?_
  refine sl_set 76 (.val (.bool true)) (val_tt hJn) ?_
  refine sl_mv rfl rfl rfl ?_
  refine sl_guard_y rfl rfl rfl (rfl) ?_
  first
    | refine sl_load_rpn rfl rfl rfl ag_40 sz_40 (Nat.le_of_ble_eq_true rfl) ?_
    | refine sl_load_blkn rfl rfl rfl ag_40 sz_40 (by repeat constructor) (Nat.le_of_ble_eq_true rfl) ?_
    | refine sl_load_ref rfl rfl rfl ag_40 sz_40 (Nat.le_of_ble_eq_true rfl) ?_
  refine sl_guard_y rfl rfl rfl (rfl) ?_
  first
    | refine sl_load_rpn rfl rfl rfl ag_40 sz_40 (Nat.le_of_ble_eq_true rfl) ?_
    | refine sl_load_blkn rfl rfl rfl ag_40 sz_40 (by repeat constructor) (Nat.le_of_ble_eq_true rfl) ?_
    | refine sl_load_ref rfl rfl rfl ag_40 sz_40 (Nat.le_of_ble_eq_true rfl) ?_
  refine sl_guard_y rfl rfl rfl (rfl) ?_
  refine sl_callp rfl rfl cal_19 ((leC p J (by omega) (by omega))) ?_ ?_
  · repeat constructor
  refine sl_set 80 (.val (.bool true)) (val_tt (by rw [hJ]; exact leq_join_l p A)) ?_
  refine sl_pk_t rfl rfl rfl (rfl) rfl ?_
  refine sl_mv rfl rfl rfl ?_
  refine sl_guard_y rfl rfl rfl (rfl) ?_
  first
    | refine sl_load_rpn rfl rfl rfl ag_40 sz_40 (Nat.le_of_ble_eq_true rfl) ?_
    | refine sl_load_blkn rfl rfl rfl ag_40 sz_40 (by repeat constructor) (Nat.le_of_ble_eq_true rfl) ?_
    | refine sl_load_ref rfl rfl rfl ag_40 sz_40 (Nat.le_of_ble_eq_true rfl) ?_
  refine sl_guard_y rfl rfl rfl (rfl) ?_
  first
    | refine sl_load_rpn rfl rfl rfl ag_40 sz_40 (Nat.le_of_ble_eq_true rfl) ?_
    | refine sl_load_blkn rfl rfl rfl ag_40 sz_40 (by repeat constructor) (Nat.le_of_ble_eq_true rfl) ?_
    | refine sl_load_ref rfl rfl rfl ag_40 sz_40 (Nat.le_of_ble_eq_true rfl) ?_
  refine sl_guard_y rfl rfl rfl (rfl) ?_
  refine sl_callp rfl rfl cal_19 ((leC A J (by omega) (by omega))) ?_ ?_
  · repeat constructor
  refine sl_set 85 (.val (.bool true)) (val_tt (by rw [hJ]; exact leq_join_r p A)) ?_
  refine sl_pk_t rfl rfl rfl (rfl) rfl ?_
  refine sl_mv rfl rfl rfl ?_
  refine sl_guard_y rfl rfl rfl (rfl) ?_
  first
    | refine sl_fieldAddr_ptr rfl rfl rfl fo_40_1 ?_
    | refine sl_fieldAddr_rp rfl rfl rfl fo_40_1 ?_
    | refine sl_fieldAddr_ref rfl rfl rfl fo_40_1 ?_
  refine sl_guard_y rfl rfl rfl (rfl) ?_
  first
    | refine sl_load_rp1 rfl rfl rfl ag_38 rfl ?_
    | refine sl_load_blk1 rfl rfl rfl ag_38 (by repeat constructor) rfl ?_
  refine sl_guard_y rfl rfl rfl (rfl) ?_
  first
    | refine sl_len rfl rfl rfl ⟨_, u_38⟩ ?_
    | refine sl_len_sl rfl rfl rfl ⟨_, u_38⟩ ?_
    | refine sl_len_w _ rfl rfl rfl ⟨_, u_38⟩ ?_
  refine sl_guard_y rfl rfl rfl (rfl) ?_
  refine sl_mv rfl rfl rfl ?_
  refine sl_guard_y rfl rfl rfl (rfl) ?_
  first
    | refine sl_len rfl rfl rfl ⟨_, u_38⟩ ?_
    | refine sl_len_sl rfl rfl rfl ⟨_, u_38⟩ ?_
    | refine sl_len_w _ rfl rfl rfl ⟨_, u_38⟩ ?_
  refine sl_guard_y rfl rfl rfl (rfl) ?_
  first
    | refine sl_fieldAddr_ptr rfl rfl rfl fo_40_1 ?_
    | refine sl_fieldAddr_rp rfl rfl rfl fo_40_1 ?_
    | refine sl_fieldAddr_ref rfl rfl rfl fo_40_1 ?_
  refine sl_guard_y rfl rfl rfl (rfl) ?_
  first
    | refine sl_load_rp1 rfl rfl rfl ag_38 rfl ?_
    | refine sl_load_blk1 rfl rfl rfl ag_38 (by repeat constructor) rfl ?_
  refine sl_guard_y rfl rfl rfl (rfl) ?_
  first
    | refine sl_len rfl rfl rfl ⟨_, u_38⟩ ?_
    | refine sl_len_sl rfl rfl rfl ⟨_, u_38⟩ ?_
    | refine sl_len_w _ rfl rfl rfl ⟨_, u_38⟩ ?_
  refine sl_guard_y rfl rfl rfl (rfl) ?_
  first
    | refine sl_inc rfl rfl rfl rfl (by omega) ?_
    | refine sl_add rfl rfl rfl rfl (by constructor <;> omega) ?_
    | refine sl_bin rfl rfl rfl rfl rfl ?_
  refine sl_guard_y rfl rfl rfl (rfl) ?_
  refine sl_bin rfl rfl rfl rfl rfl ?_
  refine sl_set 97 (.val (.bool true)) (val_tt (decide_eq_true (by simp only [List.length_map]; omega))) ?_
  refine sl_pk_t rfl rfl rfl (rfl) rfl ?_
  refine sl_as rfl rfl rfl ?_
  refine sl_nil ?_
  refine sw_ret ⟨rfl, _, _, res_one rfl rfl, ?_, ⟨rfl, rfl⟩⟩
  repeat constructor

end Go.Proofs.Ytipacoopapjdpaa
