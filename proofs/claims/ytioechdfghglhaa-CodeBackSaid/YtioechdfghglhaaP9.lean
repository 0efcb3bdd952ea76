/- Numbers of 32 bits, intervals, alarms and summaries, read: plain Lean. -/
import Derived.Test.YtioechdfghglhaaP8
namespace Go.Proofs.Ytioechdfghglhaa
set_option linter.unusedVariables false
set_option linter.unusedSimpArgs false
open Go Go.RowKit SL

def isI32 (n : Int) : Prop := -2147483648 ≤ n ∧ n ≤ 2147483647
instance (n : Int) : Decidable (isI32 n) := inferInstanceAs (Decidable (_ ∧ _))

def bindR {α β : Type} (x : Option (α × List UInt8)) (f : α → List UInt8 → Option (β × List UInt8)) : Option (β × List UInt8) :=
  match x with
  | none => none
  | some (a, r) => f a r

/-- A number of 32 bits, read. -/
def decS (l : List UInt8) : Option (Int × List UInt8) := bindR (decI l) fun n r => if isI32 n then some (n, r) else none

/-- How many there are, read. -/
def decC (l : List UInt8) : Option (Nat × List UInt8) := bindR (decN 0 l) fun n r => if n ≤ r.length then some (n, r) else none

def noIval : Ivl := ⟨false, 0, 0⟩

/-- An interval, read. -/
def decV (l : List UInt8) : Option (Ivl × List UInt8) := bindR (decB l) fun b r =>
  if b then bindR (decI r) fun lo r => bindR (decI r) fun hi r => some (⟨true, lo, hi⟩, r) else some (noIval, r)

def decA (l : List UInt8) : Option (Alm × List UInt8) := bindR (decS l) fun a r => bindR (decS r) fun k r => some (⟨a, k⟩, r)
def decM (l : List UInt8) : Option (Nmd × List UInt8) := bindR (decT l) fun t r => bindR (decV r) fun v r => some (⟨t, v⟩, r)

/-- So many, read one by one. -/
def decMany {α : Type} (dec : List UInt8 → Option (α × List UInt8)) : Nat → List UInt8 → Option (List α × List UInt8)
  | 0, l => some ([], l)
  | n + 1, l => bindR (decMany dec n l) fun xs r => bindR (dec r) fun x r => some (xs ++ [x], r)

theorem decS_len {l : List UInt8} {v : Int} {r : List UInt8} (h : decS l = some (v, r)) : r.length ≤ l.length ∧ isI32 v ∧ decI l = some (v, r) := by
  unfold decS bindR at h
  cases e : decI l with
  | none => rw [e] at h; cases h
  | some p =>
    rw [e] at h
    simp only at h
    split at h
    · rename_i h1
      simp only [Option.some.injEq, Prod.mk.injEq] at h
      obtain ⟨rfl, rfl⟩ := h
      exact ⟨decI_len (v := p.1) (by rw [e]), h1, rfl⟩
    · cases h

/-- A reading that left the reader so. -/
def Out {α : Type} (dec : List UInt8 → Option (α × List UInt8)) (st : Option (List UInt8)) (x : α) (st' : Option (List UInt8)) : Prop := st.bind dec = st'.map fun r => (x, r)

theorem out_rdOf {α : Type} {dec : List UInt8 → Option (α × List UInt8)} {z : α} (st : Option (List UInt8)) : Out dec st (rdOf dec z st).1 (rdOf dec z st).2 := by
  unfold Out
  cases st with
  | none => rfl
  | some l =>
    cases e : dec l with
    | none => rw [rdOf_bad e]; simp [e]
    | some p => rw [rdOf_good (v := p.1) (r := p.2) (by rw [e])]; simp [e]

theorem ival_true {st st1 st2 st3 : Option (List UInt8)} {lo hi : Int} (h1 : Out decB st true st1) (h2 : Out decI st1 lo st2) (h3 : Out decI st2 hi st3) : Out decV st ⟨true, lo, hi⟩ st3 := by
  unfold Out at *
  cases st with
  | none =>
    cases st1 with
    | none => cases st2 with
      | none => cases st3 with
        | none => rfl
        | some r => cases h3
      | some r => cases h2
    | some r => cases h1
  | some l =>
    simp only [Option.bind_some] at h1 ⊢
    unfold decV bindR
    cases st1 with
    | none =>
      rw [h1]
      cases st2 with
      | none => cases st3 with
        | none => rfl
        | some r => cases h3
      | some r => cases h2
    | some r1 =>
      rw [h1]
      simp only [Option.bind_some, Option.map_some] at h2 ⊢
      rw [h2]
      cases st2 with
      | none => cases st3 with
        | none => rfl
        | some r => cases h3
      | some r2 =>
        simp only [Option.bind_some, Option.map_some] at h3 ⊢
        rw [h3]
        cases st3 with
        | none => rfl
        | some r => rfl

theorem ival_false {st st1 : Option (List UInt8)} (h1 : Out decB st false st1) : Out decV st noIval st1 := by
  unfold Out at *
  cases st with
  | none => cases st1 with
    | none => rfl
    | some r => cases h1
  | some l =>
    simp only [Option.bind_some] at h1 ⊢
    unfold decV bindR
    rw [h1]
    cases st1 with
    | none => rfl
    | some r => rfl

/-- Alarms, read. -/
def decAl (l : List UInt8) : Option (List Alm × List UInt8) := bindR (decC l) fun n r => decMany decA n r

/-- Names with intervals, read. -/
def decMl (l : List UInt8) : Option (List Nmd × List UInt8) := bindR (decC l) fun n r => decMany decM n r

/-- A summary, read. -/
def decSumm (l : List UInt8) : Option (Smy × List UInt8) :=
  bindR (decAl l) fun al r => bindR (decB r) fun e r => bindR (decV r) fun v r => bindR (decMl r) fun ml r => some (⟨al, e, v, ml⟩, r)

def noSumm : Smy := ⟨[], false, noIval, []⟩

theorem Out.bind {α β : Type} {d1 : List UInt8 → Option (α × List UInt8)} {d2 : α → List UInt8 → Option (β × List UInt8)} {st st1 st2 : Option (List UInt8)} {a : α} {b : β}
    (h1 : Out d1 st a st1) (h2 : Out (d2 a) st1 b st2) : Out (fun l => bindR (d1 l) d2) st b st2 := by
  unfold Out at *
  cases st with
  | none =>
    cases st1 with
    | none => cases st2 with
      | none => rfl
      | some r => cases h2
    | some r => cases h1
  | some l =>
    simp only [Option.bind_some] at h1 ⊢
    rw [h1]
    cases st1 with
    | none => cases st2 with
      | none => rfl
      | some r => cases h2
    | some r1 => exact h2

theorem Out.done {α : Type} (x : α) (st : Option (List UInt8)) : Out (fun r => some (x, r)) st x st := by
  unfold Out
  cases st with
  | none => rfl
  | some r => rfl

theorem out_summ {st st1 st2 st3 st4 : Option (List UInt8)} {al : List Alm} {e : Bool} {v : Ivl} {ml : List Nmd} (h1 : Out decAl st al st1) (h2 : Out decB st1 e st2) (h3 : Out decV st2 v st3) (h4 : Out decMl st3 ml st4) :
    Out decSumm st ⟨al, e, v, ml⟩ st4 :=
  Out.bind h1 (Out.bind (d2 := fun e r => bindR (decV r) fun v r => bindR (decMl r) fun ml r => some ((⟨al, e, v, ml⟩ : Smy), r)) h2
    (Out.bind (d2 := fun v r => bindR (decMl r) fun ml r => some ((⟨al, e, v, ml⟩ : Smy), r)) h3 (Out.bind (d2 := fun ml r => some ((⟨al, e, v, ml⟩ : Smy), r)) h4 (Out.done _ _))))

theorem out_nmd {st st1 st2 : Option (List UInt8)} {t : List UInt8} {v : Ivl} (h1 : Out decT st t st1) (h2 : Out decV st1 v st2) : Out decM st ⟨t, v⟩ st2 :=
  Out.bind h1 (Out.bind (d2 := fun v r => some ((⟨t, v⟩ : Nmd), r)) h2 (Out.done _ _))

theorem ml_none {st : Option (List UInt8)} {n : Nat} (h : Out (decN 0) st n none) : Out decMl st [] none := by
  unfold Out at *
  cases st with
  | none => rfl
  | some l =>
    simp only [Option.bind_some, Option.map_none] at h ⊢
    unfold decMl decC bindR; rw [h]

theorem ml_great {st : Option (List UInt8)} {n : Nat} {r : List UInt8} (h : Out (decN 0) st n (some r)) (hn : ¬ n ≤ r.length) : Out decMl st [] none := by
  unfold Out at *
  cases st with
  | none => rfl
  | some l =>
    simp only [Option.bind_some, Option.map_some, Option.map_none] at h ⊢
    unfold decMl decC bindR; rw [h]; simp only; rw [if_neg hn]

theorem ml_some {st : Option (List UInt8)} {n : Nat} {r : List UInt8} (h : Out (decN 0) st n (some r)) (hn : n ≤ r.length) {ml : List Nmd} {st' : Option (List UInt8)} (h2 : Out (decMany decM n) (some r) ml st') : Out decMl st ml st' := by
  unfold Out at *
  cases st with
  | none => cases h
  | some l =>
    simp only [Option.bind_some, Option.map_some] at h h2 ⊢
    unfold decMl decC bindR; rw [h]; simp only; rw [if_pos hn]; exact h2

theorem out_none {α : Type} {dec : List UInt8 → Option (α × List UInt8)} {st : Option (List UInt8)} {x y : α} (h : Out dec st x none) : Out dec st y none := h

theorem al_none {st : Option (List UInt8)} {n : Nat} (h : Out (decN 0) st n none) : Out decAl st [] none := by
  unfold Out at *
  cases st with
  | none => rfl
  | some l =>
    simp only [Option.bind_some, Option.map_none] at h ⊢
    unfold decAl decC bindR; rw [h]

theorem al_great {st : Option (List UInt8)} {n : Nat} {r : List UInt8} (h : Out (decN 0) st n (some r)) (hn : ¬ n ≤ r.length) : Out decAl st [] none := by
  unfold Out at *
  cases st with
  | none => rfl
  | some l =>
    simp only [Option.bind_some, Option.map_some, Option.map_none] at h ⊢
    unfold decAl decC bindR; rw [h]; simp only; rw [if_neg hn]

theorem al_some {st : Option (List UInt8)} {n : Nat} {r : List UInt8} (h : Out (decN 0) st n (some r)) (hn : n ≤ r.length) {al : List Alm} {st' : Option (List UInt8)} (h2 : Out (decMany decA n) (some r) al st') : Out decAl st al st' := by
  unfold Out at *
  cases st with
  | none => cases h
  | some l =>
    simp only [Option.bind_some, Option.map_some] at h h2 ⊢
    unfold decAl decC bindR; rw [h]; simp only; rw [if_pos hn]; exact h2

theorem many_zero {α : Type} {dec : List UInt8 → Option (α × List UInt8)} (r : List UInt8) : Out (decMany dec 0) (some r) [] (some r) := rfl

/-- One more of them. -/
theorem many_succ {α : Type} {dec : List UInt8 → Option (α × List UInt8)} {r : List UInt8} {j : Nat} {xs : List α} {r1 : List UInt8} {x : α} {st2 : Option (List UInt8)}
    (h : Out (decMany dec j) (some r) xs (some r1)) (h2 : Out dec (some r1) x st2) : Out (decMany dec (j + 1)) (some r) (xs ++ [x]) st2 := by
  unfold Out at *
  simp only [Option.bind_some, Option.map_some] at h h2 ⊢
  unfold decMany bindR; rw [h]; simp only; rw [h2]
  cases st2 with
  | none => rfl
  | some r => rfl

/-- Once it has failed it stays so. -/
theorem many_fail {α : Type} {dec : List UInt8 → Option (α × List UInt8)} {r : List UInt8} {j : Nat} {xs ys : List α} (h : Out (decMany dec j) (some r) xs none) : ∀ n, j ≤ n → Out (decMany dec n) (some r) ys none := by
  intro n hn
  induction hn with
  | refl => exact h
  | step _ ih =>
    unfold Out at *
    simp only [Option.bind_some, Option.map_none] at ih ⊢
    unfold decMany bindR; rw [ih]

theorem out_alm {st st1 st2 : Option (List UInt8)} {a k : Int} (h1 : Out decS st a st1) (h2 : Out decS st1 k st2) : Out decA st ⟨a, k⟩ st2 := by
  unfold Out at *
  cases st with
  | none =>
    cases st1 with
    | none => cases st2 with
      | none => rfl
      | some r => cases h2
    | some r => cases h1
  | some l =>
    simp only [Option.bind_some] at h1 ⊢
    unfold decA bindR
    rw [h1]
    cases st1 with
    | none => cases st2 with
      | none => rfl
      | some r => cases h2
    | some r1 =>
      simp only [Option.bind_some, Option.map_some] at h2 ⊢
      rw [h2]
      cases st2 with
      | none => rfl
      | some r => rfl

end Go.Proofs.Ytioechdfghglhaa
