/- How the document's reader goes over a number's bytes: plain Lean. -/
import Derived.Test.YtioechdfghglhaaP7
namespace Go.Proofs.Ytioechdfghglhaa
set_option linter.unusedVariables false
set_option linter.unusedSimpArgs false
open Go Go.RowKit SL

def NumGoes (l : List UInt8) (i : Nat) : Prop := i < l.length ∧ (i < 9 ∨ i = 9 ∧ (l.getD i 0).toNat ≤ 1)
instance (l : List UInt8) (i : Nat) : Decidable (NumGoes l i) := inferInstanceAs (Decidable (_ ∧ _))
def numStop (l : List UInt8) (i : Nat) : Bool := !(decide (NumGoes l i))

theorem numStop_t {l : List UInt8} {i : Nat} {b : Bool} (hb : b = true) (h : ¬ NumGoes l i) : D.val (.bool b) = .val (.bool (numStop l i)) := by
  subst hb; unfold numStop; rw [decide_eq_false h]; rfl
theorem numStop_f {l : List UInt8} {i : Nat} {b : Bool} (hb : b = false) (h : NumGoes l i) : D.val (.bool b) = .val (.bool (numStop l i)) := by
  subst hb; unfold numStop; rw [decide_eq_true h]; rfl
theorem numStop_iff {l : List UInt8} {i : Nat} : (numStop l i = true ↔ ¬ NumGoes l i) ∧ (numStop l i = false ↔ NumGoes l i) := by
  unfold numStop
  constructor <;> simp

theorem drop_at {l : List UInt8} {i : Nat} (h : i < l.length) : l.drop i = l[i] :: l.drop (i + 1) := List.drop_eq_getElem_cons h
theorem getD_at {l : List UInt8} {i : Nat} (h : i < l.length) : l.getD i 0 = l[i] := by
  rw [List.getD_eq_getElem?_getD, List.getElem?_eq_getElem h]; rfl

theorem decN_stop {l : List UInt8} {i : Nat} (hi : i ≤ 10) (h : ¬ NumGoes l i) : decN i (l.drop i) = none := by
  by_cases h1 : i < l.length
  · rw [drop_at h1]
    unfold NumGoes at h
    rw [getD_at h1] at h
    simp only [decN]
    rw [if_pos (by omega)]
  · rw [List.drop_of_length_le (by omega)]; rfl

theorem goes_lt {l : List UInt8} {i : Nat} (h : NumGoes l i) : ∃ h1 : i < l.length, i < 9 ∨ i = 9 ∧ l[i].toNat ≤ 1 := by
  obtain ⟨h1, h2⟩ := h
  rw [getD_at h1] at h2
  exact ⟨h1, h2⟩

theorem and_low : ∀ y : Fin 256, (BitVec.ofInt 8 (y.val : Int) &&& BitVec.ofInt 8 127).toNat = y.val % 128 := by
  set_option maxRecDepth 8000 in decide

theorem low_byte (x : UInt8) : D.val (.int .u8 (IntKind.u8.wrap ((BitVec.ofInt IntKind.u8.bits (x.toNat : Int) &&& BitVec.ofInt IntKind.u8.bits 127).toNat : Int))) = .val (.int .u8 ((x.toNat % 128 : Nat) : Int)) := by
  have h := and_low ⟨x.toNat, x.toNat_lt⟩
  simp only at h
  show D.val (.int .u8 (IntKind.u8.wrap ((BitVec.ofInt 8 (x.toNat : Int) &&& BitVec.ofInt 8 127).toNat : Int))) = _
  rw [h, wrap_u8 (by omega) (by omega)]

end Go.Proofs.Ytioechdfghglhaa
