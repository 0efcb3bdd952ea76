/- Summaries held against one another: plain Lean. -/
import Derived.Test.YtioechdfghglhaaP10
namespace Go.Proofs.Ytioechdfghglhaa
set_option linter.unusedVariables false
set_option linter.unusedSimpArgs false
open Go Go.RowKit SL

def decEqAlm (a b : Alm) : Decidable (a = b) :=
  if h : a.pos = b.pos ∧ a.kind = b.kind then .isTrue (by cases a; cases b; simp at h; simp [h]) else .isFalse (fun e => h (by subst e; exact ⟨rfl, rfl⟩))
instance : DecidableEq Alm := decEqAlm
def decEqIvl (a b : Ivl) : Decidable (a = b) :=
  if h : a.some = b.some ∧ a.lo = b.lo ∧ a.hi = b.hi then .isTrue (by cases a; cases b; simp at h; simp [h]) else .isFalse (fun e => h (by subst e; exact ⟨rfl, rfl, rfl⟩))
instance : DecidableEq Ivl := decEqIvl
def decEqNmd (a b : Nmd) : Decidable (a = b) :=
  if h : a.name = b.name ∧ a.v = b.v then .isTrue (by cases a; cases b; simp at h; simp [h]) else .isFalse (fun e => h (by subst e; exact ⟨rfl, rfl⟩))
instance : DecidableEq Nmd := decEqNmd
def decEqSmy (a b : Smy) : Decidable (a = b) :=
  if h : a.alarms = b.alarms ∧ a.ends = b.ends ∧ a.ret = b.ret ∧ a.mod = b.mod then .isTrue (by cases a; cases b; simp at h; simp [h]) else .isFalse (fun e => h (by subst e; exact ⟨rfl, rfl, rfl, rfl⟩))
instance : DecidableEq Smy := decEqSmy

theorem alm_cmp (a b : Alm) : ((a.pos == b.pos) && ((a.kind == b.kind) && true)) = decide (a = b) := by
  cases a; cases b
  simp only [Bool.and_true, Alm.mk.injEq, Bool.decide_and]
  rfl
theorem ivl_cmp (a b : Ivl) : ((a.some == b.some) && ((a.lo == b.lo) && ((a.hi == b.hi) && true))) = decide (a = b) := by
  cases a; cases b
  simp only [Bool.and_true, Ivl.mk.injEq, Bool.decide_and]
  rfl
theorem nmd_cmp (a b : Nmd) : ((a.name == b.name) && ((a.v.some == b.v.some) && ((a.v.lo == b.v.lo) && ((a.v.hi == b.v.hi) && true)))) = decide (a = b) := by
  rw [ivl_cmp]
  cases a; cases b
  rw [Bool.eq_iff_iff]; simp

theorem list_ne_at {α : Type} [DecidableEq α] {xs ys : List α} {i : Nat} (h : i < xs.length) (h' : i < ys.length) (hne : xs[i] ≠ ys[i]) : decide (xs = ys) = false := by
  refine decide_eq_false fun e => ?_
  subst e; exact hne rfl

theorem list_eq_all {α : Type} {xs ys : List α} (hl : xs.length = ys.length) (h : ∀ i (h : i < xs.length) (h' : i < ys.length), xs[i] = ys[i]) : xs = ys := List.ext_getElem hl h

theorem len_ne {α β : Type} {f : α → V} {g : β → V} {a : List α} {b : List β} (h : ((((a.map f).length : Nat) : Int) != (((b.map g).length : Nat) : Int)) = true) : a.length ≠ b.length := by
  intro e
  rw [List.length_map, List.length_map, e] at h
  simp at h
theorem len_nn {α β : Type} {f : α → V} {g : β → V} {a : List α} {b : List β} (h : ((((a.map f).length : Nat) : Int) != (((b.map g).length : Nat) : Int)) = false) : a.length = b.length := by
  rw [List.length_map, List.length_map] at h
  have : ((a.length : Nat) : Int) = ((b.length : Nat) : Int) := by simpa using h
  omega
theorem all_two {α : Type} {a b : List α} {i : Nat} (hall : ∀ k (h1 : k < a.length) (h2 : k < b.length), k < i → a[k] = b[k]) (hj1 : i < a.length) (hj2 : i < b.length) (h : a[i] = b[i]) :
    ∀ k (h1 : k < a.length) (h2 : k < b.length), k < i + 1 → a[k] = b[k] := fun k h1 h2 hk => by
  rcases Nat.lt_or_ge k i with h' | h'
  · exact hall k h1 h2 h'
  · obtain rfl : k = i := by omega
    exact h
theorem dec_ff {p : Prop} [Decidable p] (h : ¬ p) : D.val (.bool false) = .val (.bool (decide p)) := by rw [decide_eq_false h]
theorem dec_tt {p : Prop} [Decidable p] (h : p) : D.val (.bool true) = .val (.bool (decide p)) := by rw [decide_eq_true h]

theorem smy_eq {a b : Smy} (h1 : a.ends = b.ends) (h2 : a.ret = b.ret) (h3 : a.alarms = b.alarms) (h4 : a.mod = b.mod) : a = b := by
  cases a; cases b; simp_all

theorem decMany_num {α : Type} {dec : List UInt8 → Option (α × List UInt8)} : ∀ (n : Nat) (l : List UInt8) (xs : List α) (r : List UInt8), decMany dec n l = some (xs, r) → xs.length = n
  | 0, l, xs, r, h => by simp only [decMany, Option.some.injEq, Prod.mk.injEq] at h; rw [← h.1]; rfl
  | n + 1, l, xs, r, h => by
    unfold decMany bindR at h
    cases e : decMany dec n l with
    | none => rw [e] at h; cases h
    | some p =>
      have := decMany_num n l p.1 p.2 (by rw [e])
      rw [e] at h
      simp only at h
      cases e2 : dec p.2 with
      | none => rw [e2] at h; cases h
      | some q =>
        rw [e2] at h
        simp only [Option.some.injEq, Prod.mk.injEq] at h
        rw [← h.1, List.length_append, this]; rfl

theorem bindR_some {α β : Type} {x : Option (α × List UInt8)} {f : α → List UInt8 → Option (β × List UInt8)} {b : β} {r : List UInt8} (h : bindR x f = some (b, r)) : ∃ a r1, x = some (a, r1) ∧ f a r1 = some (b, r) := by
  cases x with
  | none => cases h
  | some p => exact ⟨p.1, p.2, rfl, h⟩

theorem decAl_num {l r : List UInt8} {al : List Alm} (h : decAl l = some (al, r)) : al.length ≤ l.length ∧ r.length ≤ l.length := by
  obtain ⟨n, r1, h1, h2⟩ := bindR_some h
  have := decMany_num _ _ _ _ h2
  have := decC_inv h1
  have := decMany_len (fun _ _ _ h => decA_len h) n r1 al r h2
  omega
theorem decMl_num {l r : List UInt8} {ml : List Nmd} (h : decMl l = some (ml, r)) : ml.length ≤ l.length := by
  obtain ⟨n, r1, h1, h2⟩ := bindR_some h
  have := decMany_num _ _ _ _ h2
  have := decC_inv h1
  omega

theorem decSumm_num {l r : List UInt8} {s : Smy} (h : decSumm l = some (s, r)) : s.alarms.length ≤ l.length ∧ s.mod.length ≤ l.length := by
  obtain ⟨al, r1, h1, h⟩ := bindR_some h
  obtain ⟨e, r2, h2, h⟩ := bindR_some h
  obtain ⟨v, r3, h3, h⟩ := bindR_some h
  obtain ⟨ml, r4, h4, h⟩ := bindR_some h
  simp only [Option.some.injEq, Prod.mk.injEq] at h
  obtain ⟨rfl, rfl⟩ := h
  have a1 := decAl_num h1
  have a2 := decMl_num h4
  have a3 := decB_len h2
  have a4 := decV_len h3
  exact ⟨a1.1, by simp only; omega⟩

theorem summ_small {q : Nat} {st : Option (List UInt8)} {c : Chunk} (h : Rdr q st c) : (rdOf decSumm noSumm st).1.alarms.length ≤ 100000000 ∧ (rdOf decSumm noSumm st).1.mod.length ≤ 100000000 := by
  cases st with
  | none => exact ⟨Nat.zero_le _, Nat.zero_le _⟩
  | some l =>
    obtain ⟨_, hl⟩ := h
    cases e : decSumm l with
    | none => rw [rdOf_bad e]; exact ⟨Nat.zero_le _, Nat.zero_le _⟩
    | some p =>
      have := decSumm_num (s := p.1) (r := p.2) (by rw [e])
      rw [rdOf_good (v := p.1) (r := p.2) (by rw [e])]
      simp only; omega

theorem self_u64 (n : Nat) : D.val (.bool (((n : Nat) : Int) == (n : Int))) = .val (.bool true) := by rw [beq_self_eq_true]
theorem self_i64 (n : Int) : D.val (.bool (n == n)) = .val (.bool true) := by rw [beq_self_eq_true]
theorem self_str (n : List UInt8) : D.val (.bool (n == n)) = .val (.bool true) := by rw [beq_self_eq_true]
theorem self_bool (n : Bool) : D.val (.bool (n == n)) = .val (.bool true) := by rw [beq_self_eq_true]

theorem done_end (l : List UInt8) : D.val (.bool ((doneV (some l) == 0) == (((l.map byteV).length : Int) == 0))) = .val (.bool true) := by
  cases l with
  | nil => rfl
  | cons x l =>
    have : ((((x :: l).map byteV).length : Int) == 0) = false := by simp; omega
    rw [this]; rfl

theorem not_dec {p : Prop} [Decidable p] {b : Bool} (h : b = decide p) : (!b) = !decide p := by rw [h]

end Go.Proofs.Ytioechdfghglhaa
