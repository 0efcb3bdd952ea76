/- When a summary can't be read: plain Lean. -/
import Derived.Test.YtioechdfghglhaaP9
namespace Go.Proofs.Ytioechdfghglhaa
set_option linter.unusedVariables false
set_option linter.unusedSimpArgs false
open Go Go.RowKit SL

theorem decC_inv {l : List UInt8} {n : Nat} {r : List UInt8} (h : decC l = some (n, r)) : decN 0 l = some (n, r) ∧ n ≤ r.length ∧ r.length ≤ l.length := by
  unfold decC bindR at h
  cases e : decN 0 l with
  | none => rw [e] at h; cases h
  | some p =>
    rw [e] at h
    simp only at h
    split at h
    · rename_i h1
      simp only [Option.some.injEq, Prod.mk.injEq] at h
      obtain ⟨rfl, rfl⟩ := h
      exact ⟨rfl, h1, decN_len (v := p.1) (by rw [e])⟩
    · cases h

theorem sum_bad_al {l : List UInt8} (h : Out decAl (some l) [] none) : decSumm l = none := out_summ (e := false) (v := noIval) (ml := []) (st2 := none) (st3 := none) (st4 := none) h rfl rfl rfl
theorem sum_bad_e {l r1 : List UInt8} {al : List Alm} (h : Out decAl (some l) al (some r1)) (h2 : decB r1 = none) : decSumm l = none := out_summ (e := false) (v := noIval) (ml := []) (st2 := none) (st3 := none) (st4 := none) h h2 rfl rfl
theorem sum_bad_v {l r1 r2 : List UInt8} {al : List Alm} {e : Bool} (h : Out decAl (some l) al (some r1)) (h2 : decB r1 = some (e, r2)) (h3 : decV r2 = none) : decSumm l = none :=
  out_summ (v := noIval) (ml := []) (st2 := some r2) (st3 := none) (st4 := none) h h2 h3 rfl
theorem sum_bad_ml {l r1 r2 r3 : List UInt8} {al : List Alm} {e : Bool} {v : Ivl} (h : Out decAl (some l) al (some r1)) (h2 : decB r1 = some (e, r2)) (h3 : decV r2 = some (v, r3)) (h4 : Out decMl (some r3) [] none) : decSumm l = none :=
  out_summ (ml := []) (st2 := some r2) (st3 := some r3) (st4 := none) h h2 h3 h4

theorem al_bad {l : List UInt8} (h : decC l = none) : Out decAl (some l) [] none := by
  show decAl l = none
  unfold decAl bindR; rw [h]
theorem ml_bad {l : List UInt8} (h : decC l = none) : Out decMl (some l) [] none := by
  show decMl l = none
  unfold decMl bindR; rw [h]
theorem al_good {l r : List UInt8} {n : Nat} (h : decC l = some (n, r)) {al : List Alm} {st : Option (List UInt8)} (h2 : Out (decMany decA n) (some r) al st) : Out decAl (some l) al st :=
  al_some (st := some l) (decC_inv h).1 (decC_inv h).2.1 h2
theorem ml_good {l r : List UInt8} {n : Nat} (h : decC l = some (n, r)) {ml : List Nmd} {st : Option (List UInt8)} (h2 : Out (decMany decM n) (some r) ml st) : Out decMl (some l) ml st :=
  ml_some (st := some l) (decC_inv h).1 (decC_inv h).2.1 h2

/-- One of them can't be read. -/
theorem many_bad {α : Type} {dec : List UInt8 → Option (α × List UInt8)} {r : List UInt8} {j n : Nat} {xs : List α} {r1 : List UInt8} (h : Out (decMany dec j) (some r) xs (some r1)) (h2 : dec r1 = none) (hj : j < n) :
    Out (decMany dec n) (some r) [] none := by
  refine many_fail (xs := []) (j := j + 1) ?_ n hj
  unfold Out at *
  simp only [Option.bind_some, Option.map_some, Option.map_none] at h ⊢
  unfold decMany bindR; rw [h]; simp only; rw [h2]

theorem decA_bad1 {l : List UInt8} (h : decS l = none) : decA l = none := by unfold decA bindR; rw [h]
theorem decA_bad2 {l r : List UInt8} {a : Int} (h : decS l = some (a, r)) (h2 : decS r = none) : decA l = none := by unfold decA bindR; rw [h]; simp only; rw [h2]
theorem decM_bad1 {l : List UInt8} (h : decT l = none) : decM l = none := by unfold decM bindR; rw [h]
theorem decM_bad2 {l r : List UInt8} {t : List UInt8} (h : decT l = some (t, r)) (h2 : decV r = none) : decM l = none := by unfold decM bindR; rw [h]; simp only; rw [h2]

theorem decV_len {l : List UInt8} {v : Ivl} {r : List UInt8} (h : decV l = some (v, r)) : r.length ≤ l.length := by
  unfold decV bindR at h
  split at h
  · cases h
  · rename_i b r1 h1
    have l1 := decB_len h1
    simp only at h
    split at h
    · split at h
      · cases h
      · rename_i lo r2 h2
        have l2 := decI_len h2
        split at h
        · cases h
        · rename_i hi r3 h3
          have l3 := decI_len h3
          simp only [Option.some.injEq, Prod.mk.injEq] at h
          rw [← h.2]; omega
    · simp only [Option.some.injEq, Prod.mk.injEq] at h
      rw [← h.2]; omega

theorem bindR_len {α β : Type} {x : Option (α × List UInt8)} {f : α → List UInt8 → Option (β × List UInt8)} {l r : List UInt8} {b : β} (h : bindR x f = some (b, r)) (hx : ∀ a r1, x = some (a, r1) → r1.length ≤ l.length)
    (hf : ∀ a r1, x = some (a, r1) → ∀ b r2, f a r1 = some (b, r2) → r2.length ≤ r1.length) : r.length ≤ l.length := by
  unfold bindR at h
  cases x with
  | none => cases h
  | some p => exact Nat.le_trans (hf p.1 p.2 rfl b r h) (hx p.1 p.2 rfl)

theorem decA_len {l r : List UInt8} {a : Alm} (h : decA l = some (a, r)) : r.length ≤ l.length :=
  bindR_len h (fun a r1 h => (decS_len h).1) fun a r1 h b r2 h2 => bindR_len h2 (fun a r1 h => (decS_len h).1) fun a r1 h b r2 h2 => by
    simp only [Option.some.injEq, Prod.mk.injEq] at h2; rw [h2.2]; exact Nat.le_refl _

theorem decM_len {l r : List UInt8} {m : Nmd} (h : decM l = some (m, r)) : r.length ≤ l.length :=
  bindR_len h (fun a r1 h => decT_len h) fun a r1 h b r2 h2 => bindR_len h2 (fun a r1 h => decV_len h) fun a r1 h b r2 h2 => by
    simp only [Option.some.injEq, Prod.mk.injEq] at h2; rw [h2.2]; exact Nat.le_refl _

theorem decMany_len {α : Type} {dec : List UInt8 → Option (α × List UInt8)} (hd : ∀ l a r, dec l = some (a, r) → r.length ≤ l.length) : ∀ (n : Nat) (l : List UInt8) (xs : List α) (r : List UInt8), decMany dec n l = some (xs, r) → r.length ≤ l.length
  | 0, l, xs, r, h => by simp only [decMany, Option.some.injEq, Prod.mk.injEq] at h; rw [h.2]; exact Nat.le_refl _
  | n + 1, l, xs, r, h => bindR_len h (fun xs r1 h => decMany_len hd n l xs r1 h) fun a r1 h b r2 h2 => bindR_len h2 (fun a r h => hd _ _ _ h) fun a r1 h b r2 h2 => by
    simp only [Option.some.injEq, Prod.mk.injEq] at h2; rw [h2.2]; exact Nat.le_refl _

theorem decSumm_len {l r : List UInt8} {s : Smy} (h : decSumm l = some (s, r)) : r.length ≤ l.length :=
  bindR_len h (fun al r1 h => bindR_len h (fun n r h => (decC_inv h).2.2) fun n r1 _ b r2 h => decMany_len (fun _ _ _ h => decA_len h) n r1 b r2 h) fun al r1 _ b r2 h =>
    bindR_len h (fun e r h => decB_len h) fun e r1 _ b r2 h => bindR_len h (fun v r h => decV_len h) fun v r1 _ b r2 h =>
      bindR_len h (fun ml r1 h => bindR_len h (fun n r h => (decC_inv h).2.2) fun n r1 _ b r2 h => decMany_len (fun _ _ _ h => decM_len h) n r1 b r2 h) fun ml r1 _ b r2 h => by
        simp only [Option.some.injEq, Prod.mk.injEq] at h; rw [h.2]; exact Nat.le_refl _

/-- A reader that has failed told nothing. -/
theorem rdOf_none_z {α : Type} {dec : List UInt8 → Option (α × List UInt8)} {z : α} {st : Option (List UInt8)} (h : (rdOf dec z st).2 = none) : (rdOf dec z st).1 = z := by
  cases st with
  | none => rfl
  | some l =>
    cases e : dec l with
    | none => rw [rdOf_bad e]
    | some p => rw [rdOf_good (v := p.1) (r := p.2) (by rw [e])] at h; cases h

/-- What was read is what the one who reads tells. -/
theorem Out.rdOf {α : Type} {dec : List UInt8 → Option (α × List UInt8)} {z x : α} {st st' : Option (List UInt8)} (h : Out dec st x st') (h0 : st' = none → x = z) : (rdOf dec z st).1 = x ∧ (rdOf dec z st).2 = st' := by
  unfold Out at h
  cases st with
  | none =>
    cases st' with
    | none => exact ⟨(h0 rfl).symm, rfl⟩
    | some r => cases h
  | some l =>
    simp only [Option.bind_some] at h
    cases st' with
    | none => rw [rdOf_bad h]; exact ⟨(h0 rfl).symm, rfl⟩
    | some r => rw [rdOf_good h]; exact ⟨rfl, rfl⟩

end Go.Proofs.Ytioechdfghglhaa
