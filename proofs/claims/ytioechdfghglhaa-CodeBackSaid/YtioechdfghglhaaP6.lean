/- Texts that are cut off anywhere, read one by one: plain Lean. -/
import Derived.Test.YtioechdfghglhaaP5
namespace Go.Proofs.Ytioechdfghglhaa
set_option linter.unusedVariables false
set_option linter.unusedSimpArgs false
open Go Go.RowKit SL

theorem decN_cut : ∀ (n i j : Nat), j < (encNum n).length → decN i ((encNum n).take j) = none := by
  intro n
  induction n using Nat.strongRecOn with
  | _ n ih =>
    intro i j hj
    cases j with
    | zero => simp [decN]
    | succ j =>
      by_cases h : n < 128
      · rw [encNum_lt h] at hj; simp at hj
      · rw [encNum_ge (by omega)] at hj ⊢
        rw [List.take_succ_cons]
        have hx : (UInt8.ofNat (n % 128 + 128)).toNat = n % 128 + 128 := by simp; omega
        have h2 := ih (n / 128) (by omega) (i + 1) j (by simpa using hj)
        simp only [decN, hx, h2]
        split
        · rfl
        · rw [if_neg (by omega)]

theorem decT_cut {s : List UInt8} {j : Nat} (hs : s.length < 18446744073709551616) (hj : j < (encText s).length) : decT ((encText s).take j) = none := by
  unfold decT
  unfold encText at hj ⊢
  rw [List.length_append] at hj
  by_cases h : j < (encNum s.length).length
  · rw [List.take_append_of_le_length (by omega), decN_cut _ _ _ h]
  · rw [List.take_append, List.take_of_length_le (by omega), decN_enc hs]
    simp only [List.length_take]
    rw [if_neg (by omega)]

def cutE (ss : List (List UInt8)) (i : Nat) : Nat := ((ss.take i).flatMap encText).length
def endsOf (ss : List (List UInt8)) (k : Nat) : List Int := (List.range k).map fun i => ((cutE ss (i + 1) : Nat) : Int)

theorem endsOf_succ (ss : List (List UInt8)) (k : Nat) : endsOf ss (k + 1) = endsOf ss k ++ [((cutE ss (k + 1) : Nat) : Int)] := by
  unfold endsOf; rw [List.range_succ, List.map_append]; rfl

theorem endsOf_len (ss : List (List UInt8)) (k : Nat) : (endsOf ss k).length = k := by simp [endsOf]

theorem ends_get {ss : List (List UInt8)} {i n : Nat} (h : i < n) : ((endsOf ss n).map i64V)[((i : Nat) : Int).toNat]? = some (i64V (cutE ss (i + 1) : Nat)) := by
  have : ((i : Nat) : Int).toNat = i := by omega
  rw [this, List.getElem?_map]
  unfold endsOf
  rw [List.getElem?_map, List.getElem?_range h]; rfl

theorem cutE_succ {ss : List (List UInt8)} {i : Nat} (h : i < ss.length) : cutE ss (i + 1) = cutE ss i + (encText ss[i]).length := by
  unfold cutE
  rw [take_snoc h, List.flatMap_append, List.length_append]; simp

theorem cutE_all (ss : List (List UInt8)) : cutE ss ss.length = (ss.flatMap encText).length := by
  unfold cutE; rw [List.take_length]

def stCut (ss : List (List UInt8)) (k i : Nat) : Option (List UInt8) := if cutE ss i ≤ k then some (((ss.flatMap encText).take k).drop (cutE ss i)) else none

theorem stCut_zero (ss : List (List UInt8)) (k : Nat) : stCut ss k 0 = some ((ss.flatMap encText).take k) := by
  unfold stCut cutE; simp

theorem stCut_end {ss : List (List UInt8)} {k : Nat} (h : k < (ss.flatMap encText).length) : stCut ss k ss.length = none := by
  unfold stCut; rw [cutE_all, if_neg (by omega)]

theorem cut_step {ss : List (List UInt8)} {k i : Nat} (h : i < ss.length) (hs : ss[i].length < 18446744073709551616) :
    rdOf decT ([] : List UInt8) (stCut ss k i) = (if cutE ss (i + 1) ≤ k then ss[i] else [], stCut ss k (i + 1)) := by
  have hfull : ss.flatMap encText = (ss.take i).flatMap encText ++ (encText ss[i] ++ (ss.drop (i + 1)).flatMap encText) := by
    rw [show ss.flatMap encText = (ss.take i ++ ss.drop i).flatMap encText by rw [List.take_append_drop], List.flatMap_append, List.drop_eq_getElem_cons h, List.flatMap_cons]
  have hE := cutE_succ h
  unfold stCut
  by_cases h1 : cutE ss i ≤ k
  · rw [if_pos h1]
    have hd : ∀ e, cutE ss i ≤ e → ((ss.flatMap encText).take k).drop e = ((encText ss[i] ++ (ss.drop (i + 1)).flatMap encText).take (k - cutE ss i)).drop (e - cutE ss i) := fun e he => by
      rw [hfull, List.drop_take, List.drop_take, List.drop_append, List.drop_of_length_le (show (((ss.take i).flatMap encText).length ≤ e) from he), List.nil_append,
        show e - ((ss.take i).flatMap encText).length = e - cutE ss i from rfl, show k - e = k - cutE ss i - (e - cutE ss i) by omega]
    rw [hd _ (Nat.le_refl _), Nat.sub_self, List.drop_zero]
    by_cases h2 : cutE ss (i + 1) ≤ k
    · rw [if_pos h2, if_pos h2, hd _ (by omega)]
      have e1 : (encText ss[i] ++ (ss.drop (i + 1)).flatMap encText).take (k - cutE ss i) = encText ss[i] ++ ((ss.drop (i + 1)).flatMap encText).take (k - cutE ss i - (encText ss[i]).length) := by
        rw [List.take_append, List.take_of_length_le (by omega)]
      rw [e1, rdOf_good (decT_enc hs _)]
      have e2 : cutE ss (i + 1) - cutE ss i = (encText ss[i]).length := by omega
      rw [e2, List.drop_left]
    · rw [if_neg h2, if_neg h2]
      have e1 : (encText ss[i] ++ (ss.drop (i + 1)).flatMap encText).take (k - cutE ss i) = (encText ss[i]).take (k - cutE ss i) := by
        rw [List.take_append_of_le_length (by omega)]
      rw [e1, rdOf_bad (decT_cut hs (by omega))]
  · rw [if_neg h1, if_neg (by omega), if_neg (by omega)]
    rfl

theorem encText_pos (s : List UInt8) : 0 < (encText s).length := by
  have := encNum_pos s.length
  unfold encText; rw [List.length_append]; omega

theorem full_pos {ss : List (List UInt8)} (h : 0 < ss.length) : 0 < (ss.flatMap encText).length := by
  cases ss with
  | nil => simp at h
  | cons s ss =>
    have := encText_pos s
    simp only [List.flatMap_cons, List.length_append]; omega

theorem place_neg {a n : Int} (hn : 0 < n) (h : a.tmod n < 0) : a.tmod n + n = a % n := by
  have h1 : a.tmod n + n * a.tdiv n = a := Int.tmod_add_mul_tdiv a n
  have h2 : -n < a.tmod n := by
    have h3 : a.tmod n = -((-a).tmod n) := by rw [Int.neg_tmod, Int.neg_neg]
    have h4 := Int.tmod_lt_of_pos (-a) hn
    omega
  have h5 : a % n = (a.tmod n + n) % n := by
    rw [Int.add_emod_right]
    conv => lhs; rw [← h1]
    rw [Int.add_mul_emod_self_left]
  rw [h5, Int.emod_eq_of_lt (by omega) (by omega)]

theorem place_pos {a n : Int} (hn : 0 < n) (h : ¬ a.tmod n < 0) : a.tmod n = a % n := by
  by_cases ha : a < 0
  · have h2 : a.tmod n = -((-a).tmod n) := by rw [Int.neg_tmod, Int.neg_neg]
    have h3 : (-a).tmod n = (-a) % n := Int.tmod_eq_emod_of_nonneg (by omega)
    have h4 := Int.emod_nonneg (-a) (show n ≠ 0 by omega)
    rw [h2, h3] at h
    have h5 : (-a) % n = 0 := by omega
    rw [h2, h3, h5]
    have : n ∣ -a := Int.dvd_of_emod_eq_zero h5
    have : n ∣ a := Int.dvd_neg.mp this
    rw [Int.emod_eq_zero_of_dvd this]; rfl
  · exact Int.tmod_eq_emod_of_nonneg (by omega)

end Go.Proofs.Ytioechdfghglhaa
