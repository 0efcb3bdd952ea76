/- Walks: printed by a program of this session out of its script CodeL. -/
import Derived.Test.YtioechdfghglhaaSlT
import Derived.Test.YtioechdfghglhaaP7
import Derived.Test.YtioechdfghglhaaCodeK
namespace Go.Proofs.Ytioechdfghglhaa
set_option linter.unusedVariables false
set_option linter.unusedSimpArgs false
set_option maxRecDepth 4000
set_option maxHeartbeats 4000000
open Go Go.RowKit SL


theorem cov_ivl (n : Nat) : Covers Try.prog n 69 fun xs => ∃ i : Ivl, xs = (ivlV i).cells ∧ IvlOk i := by
  cases n with
  | zero => exact covers_zero
  | succ n =>
    refine (covers_struct Try.underlying69 (Ss := [fun xs => ∃ a : Bool, xs = (boolV a).cells ∧ True, fun xs => ∃ a : Int, xs = (i64V a).cells ∧ isI64 a, fun xs => ∃ a : Int, xs = (i64V a).cells ∧ isI64 a])
      ⟨rfl, cov_bool Try.underlying4 n, by kernel_rfl, cov_i64 Try.underlying2 n, by kernel_rfl, cov_i64 Try.underlying2 n, show (_ : Nat) = _ by kernel_rfl⟩).mono fun xs h => ?_
    obtain ⟨_, _, rfl, ⟨b, rfl, _⟩, _, _, rfl, ⟨lo, rfl, h1⟩, _, _, rfl, ⟨hi, rfl, h2⟩, rfl⟩ := h
    exact ⟨⟨b, lo, hi⟩, rfl, h1, h2⟩

theorem cov_alm (n : Nat) : Covers Try.prog n 86 fun xs => ∃ a : Alm, xs = (almV a).cells ∧ AlmOk a := by
  cases n with
  | zero => exact covers_zero
  | succ n =>
    refine (covers_struct Try.underlying86 (Ss := [fun xs => ∃ a : Int, xs = (i64V a).cells ∧ isI64 a, fun xs => ∃ a : Int, xs = (i64V a).cells ∧ isI64 a])
      ⟨rfl, cov_i64 Try.underlying3 n, by kernel_rfl, cov_i64 Try.underlying3 n, show (_ : Nat) = _ by kernel_rfl⟩).mono fun xs h => ?_
    obtain ⟨_, _, rfl, ⟨lo, rfl, h1⟩, _, _, rfl, ⟨hi, rfl, h2⟩, rfl⟩ := h
    exact ⟨⟨lo, hi⟩, rfl, h1, h2⟩

theorem cov_nmd (n : Nat) : Covers Try.prog n 127 fun xs => ∃ a : Nmd, xs = (nmdV a).cells ∧ IvlOk a.v := by
  cases n with
  | zero => exact covers_zero
  | succ n =>
    refine (covers_struct Try.underlying127 (Ss := [fun xs => ∃ a : List UInt8, xs = (strV a).cells ∧ a.length ≤ maxLen, fun xs => ∃ i : Ivl, xs = (ivlV i).cells ∧ IvlOk i])
      ⟨rfl, cov_str Try.underlying9 n, by kernel_rfl, cov_ivl n, show (_ : Nat) = _ by kernel_rfl⟩).mono fun xs h => ?_
    obtain ⟨_, _, rfl, ⟨s, rfl, _⟩, _, _, rfl, ⟨i, rfl, h2⟩, rfl⟩ := h
    exact ⟨⟨s, i⟩, rfl, h2⟩

theorem cov_alms (n : Nat) : Covers Try.prog n 67 fun xs => ∃ al : List Alm, xs = [.list (al.map almV)] ∧ (∀ a ∈ al, AlmOk a) ∧ al.length ≤ maxLen :=
  cov_list (sz := 2) almV .agg (fun _ => rfl) Try.underlying67 (by kernel_rfl) (by decide) cov_alm n
theorem cov_nmds (n : Nat) : Covers Try.prog n 70 fun xs => ∃ al : List Nmd, xs = [.list (al.map nmdV)] ∧ (∀ a ∈ al, IvlOk a.v) ∧ al.length ≤ maxLen :=
  cov_list (sz := 4) nmdV .agg (fun _ => rfl) Try.underlying70 (by kernel_rfl) (by decide) cov_nmd n

theorem cov_smy (n : Nat) : Covers Try.prog n 72 fun xs => ∃ a : Smy, xs = (smyV a).cells ∧ SmyOk a := by
  cases n with
  | zero => exact covers_zero
  | succ n =>
    refine (covers_struct Try.underlying72 (Ss := [fun xs => ∃ al : List Alm, xs = [.list (al.map almV)] ∧ (∀ a ∈ al, AlmOk a) ∧ al.length ≤ maxLen, fun xs => ∃ a : Bool, xs = (boolV a).cells ∧ True,
        fun xs => ∃ i : Ivl, xs = (ivlV i).cells ∧ IvlOk i, fun xs => ∃ al : List Nmd, xs = [.list (al.map nmdV)] ∧ (∀ a ∈ al, IvlOk a.v) ∧ al.length ≤ maxLen])
      ⟨rfl, cov_alms n, by kernel_rfl, cov_bool Try.underlying4 n, by kernel_rfl, cov_ivl n, by kernel_rfl, cov_nmds n, show (_ : Nat) = _ by kernel_rfl⟩).mono fun xs h => ?_
    obtain ⟨_, _, rfl, ⟨al, rfl, h1, _⟩, _, _, rfl, ⟨b, rfl, _⟩, _, _, rfl, ⟨i, rfl, h2⟩, _, _, rfl, ⟨ml, rfl, h3, _⟩, rfl⟩ := h
    exact ⟨⟨al, b, i, ml⟩, rfl, h1, h2, h3⟩

theorem cov_prt (n : Nat) : Covers Try.prog n 74 fun xs => ∃ a : Prt, xs = (prtV a).cells ∧ PrtOk a := by
  cases n with
  | zero => exact covers_zero
  | succ n =>
    refine (covers_struct Try.underlying74 (Ss := [fun xs => ∃ a : UInt8, xs = (byteV a).cells ∧ True, fun xs => ∃ a : Nat, xs = (u64V a).cells ∧ a < 18446744073709551616,
        fun xs => ∃ a : List UInt8, xs = (strV a).cells ∧ a.length ≤ maxLen, fun xs => ∃ a : Smy, xs = (smyV a).cells ∧ SmyOk a])
      ⟨rfl, cov_u8 Try.underlying5 n, by kernel_rfl, cov_u64 Try.underlying37 n, by kernel_rfl, cov_str Try.underlying9 n, by kernel_rfl, cov_smy n, show (_ : Nat) = _ by kernel_rfl⟩).mono fun xs h => ?_
    obtain ⟨_, _, rfl, ⟨w, rfl, _⟩, _, _, rfl, ⟨k, rfl, h1⟩, _, _, rfl, ⟨s, rfl, _⟩, _, _, rfl, ⟨y, rfl, h2⟩, rfl⟩ := h
    exact ⟨⟨w, k, s, y⟩, rfl, h1, h2⟩

theorem cov_prts {t : TypeId} (ht : Try.prog.underlying t = some (.slice 74)) (he : (0 : Nat) = 0) (hc : Try.prog.cellsOf 74 = 9) (n : Nat) :
    Covers Try.prog n t fun xs => ∃ al : List Prt, xs = [.list (al.map prtV)] ∧ (∀ a ∈ al, PrtOk a) ∧ al.length ≤ maxLen :=
  cov_list prtV .agg (fun _ => rfl) ht hc (by decide) cov_prt n

end Go.Proofs.Ytioechdfghglhaa
