/- A reader's state, as pure data; what reading does to it. -/
import Derived.Test.YtioechdfghglhaaP3
namespace Go.Proofs.Ytioechdfghglhaa
set_option linter.unusedVariables false
set_option linter.unusedSimpArgs false
open Go Go.RowKit SL

@[reducible] def rd (q : Nat) (l : List UInt8) (f : Bool) : Chunk := .blk q [.val (.list (l.map byteV)), .val (.bool f)]

theorem start_dec (l : List UInt8) : decN 0 l = (decN 0 l).map fun p => (0 + 128 ^ 0 * p.1, p.2) := by
  cases decN 0 l with
  | none => rfl
  | some p => simp

theorem len_pos_false {m : List UInt8} (h : decide ((((m.map byteV).length : Nat) : Int) > 0) = false) : m = [] := by
  cases m with
  | nil => rfl
  | cons x m =>
    have := of_decide_eq_false h
    simp only [List.length_map, List.length_cons] at this
    omega

theorem len_pos_true {m : List UInt8} (h : decide ((((m.map byteV).length : Nat) : Int) > 0) = true) : ∃ x m', m = x :: m' := by
  cases m with
  | nil => simp at h
  | cons x m => exact ⟨x, m, rfl⟩

theorem fin_dec {i n : Nat} {x : UInt8} {m l : List UInt8} (hd : decN 0 l = (decN i (x :: m)).map fun p => (n + 128 ^ i * p.1, p.2)) (h : decN i (x :: m) = some (x.toNat, m)) (hx : x.toNat < 128) :
    decN 0 l = some (n + 128 ^ i * (x.toNat % 128), m) := by rw [hd, h, Nat.mod_eq_of_lt hx]; rfl

theorem drop_one (x : UInt8) (m : List UInt8) : D.val (.list ((((x :: m).map byteV).drop 1).take (((x :: m).map byteV).length - 1))) = .val (.list (m.map byteV)) := by
  rw [List.take_of_length_le (by simp)]; rfl

/-- How a reader stands: what is left; none: it has failed. -/
def Rdr (q : Nat) : Option (List UInt8) → Chunk → Prop
  | some l, c => c = rd q l false ∧ l.length ≤ 100000000
  | none, c => ∃ r, c = rd q r true

def after {α : Type} (z : α) : Option (α × List UInt8) → α × Option (List UInt8)
  | some (n, r) => (n, some r)
  | none => (z, none)
def rdOf {α : Type} (dec : List UInt8 → Option (α × List UInt8)) (z : α) : Option (List UInt8) → α × Option (List UInt8)
  | some l => after z (dec l)
  | none => (z, none)

theorem rdOf_good {α : Type} {dec : List UInt8 → Option (α × List UInt8)} {z v : α} {l r : List UInt8} (h : dec l = some (v, r)) : rdOf dec z (some l) = (v, some r) := by
  simp only [rdOf, h, after]
theorem rdOf_bad {α : Type} {dec : List UInt8 → Option (α × List UInt8)} {z : α} {l : List UInt8} (h : dec l = none) : rdOf dec z (some l) = (z, none) := by
  simp only [rdOf, h, after]

def GoodR {α : Type} (res : Option (α × List UInt8)) (mk : α → V) (x : D) (xs : List D) : Prop := ∃ v r, res = some (v, r) ∧ x = .val (.list (r.map byteV)) ∧ xs = [.val (mk v)]
def BadR {α : Type} (res : Option (α × List UInt8)) (x : D) : Prop := res = none ∧ ∃ r : List UInt8, x = .val (.list (r.map byteV))

theorem decN_len {l : List UInt8} {v : Nat} {r : List UInt8} (h : decN 0 l = some (v, r)) : r.length ≤ l.length := by
  obtain ⟨p, rfl, _⟩ := decN_rest 0 l v r h
  simp
theorem decI_len {l : List UInt8} {v : Int} {r : List UInt8} (h : decI l = some (v, r)) : r.length ≤ l.length := by
  unfold decI at h
  cases e : decN 0 l with
  | none => rw [e] at h; cases h
  | some p =>
    rw [e] at h
    simp only [Option.map_some, Option.some.injEq, Prod.mk.injEq] at h
    rw [← h.2]; exact decN_len (v := p.1) (by rw [e])
theorem decT_len {l : List UInt8} {v : List UInt8} {r : List UInt8} (h : decT l = some (v, r)) : r.length ≤ l.length := by
  unfold decT at h
  cases e : decN 0 l with
  | none => rw [e] at h; cases h
  | some p =>
    rw [e] at h
    have := decN_len (v := p.1) (r := p.2) (by rw [e])
    simp only at h
    split at h
    · simp only [Option.some.injEq, Prod.mk.injEq] at h
      rw [← h.2, List.length_drop]; omega
    · cases h
theorem decB_len {l : List UInt8} {v : Bool} {r : List UInt8} (h : decB l = some (v, r)) : r.length ≤ l.length := by
  cases l with
  | nil => cases h
  | cons x l =>
    simp only [decB] at h
    split at h
    · simp only [Option.some.injEq, Prod.mk.injEq] at h
      rw [← h.2]; simp
    · cases h

theorem len_u64 {r : List UInt8} (h : r.length ≤ 100000000) : D.val (.int .u64 (IntKind.u64.wrap ((r.map byteV).length : Int))) = .val (.int .u64 (r.length : Int)) := by
  rw [List.length_map, wrapped_u64 _ (by omega)]
theorem take_bytes (r : List UInt8) (n : Nat) : D.val (.list (((r.map byteV).drop 0).take (n - 0))) = .val (.list ((r.take n).map byteV)) := by
  rw [List.map_take]; rfl
theorem drop_bytes (r : List UInt8) (n : Nat) : D.val (.list (((r.map byteV).drop n).take ((r.map byteV).length - n))) = .val (.list ((r.drop n).map byteV)) := by
  rw [List.map_drop, List.take_of_length_le (by simp)]
theorem is_one (x : UInt8) : D.val (.bool ((x.toNat : Int) == 1)) = .val (boolV (x.toNat == 1)) := by
  unfold boolV
  have := x.toNat_lt
  by_cases h : x.toNat = 1
  · rw [h]; rfl
  · have h1 : ((x.toNat : Int) == 1) = false := by simp; omega
    have h2 : (x.toNat == 1) = false := by simp [h]
    rw [h1, h2]

def doneV : Option (List UInt8) → Int
  | some [] => 0
  | _ => 20

theorem unzig_bits {n : Nat} (h : n < 18446744073709551616) :
    D.val (.int .i64 (IntKind.i64.wrap ((BitVec.ofInt IntKind.i64.bits (IntKind.i64.wrap ((n : Int).fdiv (2 ^ (min (1 : Int).toNat IntKind.u64.bits)))) ^^^
      BitVec.ofInt IntKind.i64.bits (IntKind.i64.wrap (0 - IntKind.i64.wrap (IntKind.u64.wrap ((BitVec.ofInt IntKind.u64.bits (n : Int) &&& BitVec.ofInt IntKind.u64.bits 1).toNat : Int))))).toNat : Int))) = .val (i64V (unzig n)) := by
  have e1 : min (1 : Int).toNat IntKind.u64.bits = 1 := by decide
  have h1 : (BitVec.ofInt IntKind.u64.bits (n : Int) &&& BitVec.ofInt IntKind.u64.bits 1).toNat = n % 2 := by
    show (BitVec.ofInt 64 (n : Int) &&& BitVec.ofInt 64 1).toNat = n % 2
    have h2 : (BitVec.ofInt 64 1).toNat = 1 := by decide
    rw [BitVec.toNat_and, h2, BitVec.toNat_ofInt]
    have : ((n : Int) % ((2 ^ 64 : Nat) : Int)).toNat = n := by omega
    rw [this, Nat.and_one_is_mod]
  rw [e1, h1, Int.fdiv_eq_ediv_of_nonneg _ (by decide), wrapped_u64 _ (by omega)]
  have h3 : ((n : Int) / 2 ^ 1) = ((n / 2 : Nat) : Int) := by omega
  rw [h3, wrap_i64 (n := ((n / 2 : Nat) : Int)) (by omega) (by omega), wrap_i64 (n := ((n % 2 : Nat) : Int)) (by omega) (by omega)]
  unfold i64V unzig
  have hb : IntKind.i64.bits = 64 := rfl
  rw [hb]
  by_cases hn : n % 2 = 1
  · rw [if_pos hn, hn]
    rw [wrap_i64 (n := 0 - ((1 : Nat) : Int)) (by omega) (by omega)]
    have ha : (BitVec.ofInt 64 (0 - ((1 : Nat) : Int))) = BitVec.allOnes 64 := by decide
    rw [ha, BitVec.xor_allOnes, BitVec.toNat_not, BitVec.toNat_ofInt]
    have e : (((2 ^ 64 - 1 - (((n / 2 : Nat) : Int) % ((2 ^ 64 : Nat) : Int)).toNat : Nat)) : Int) = 18446744073709551615 - ((n / 2 : Nat) : Int) := by omega
    rw [e]
    congr 2
    unfold IntKind.wrap
    have e1 : (2 : Int) ^ IntKind.i64.bits = 18446744073709551616 := by decide
    have e2 : (2 : Int) ^ (IntKind.i64.bits - 1) = 9223372036854775808 := by decide
    rw [e1, e2]
    have : (IntKind.i64.signed && decide ((18446744073709551615 - ((n / 2 : Nat) : Int)) % 18446744073709551616 ≥ 9223372036854775808)) = true := by simp [IntKind.signed]; omega
    simp only [this, if_true]; omega
  · rw [if_neg hn, show n % 2 = 0 by omega]
    rw [wrap_i64 (n := 0 - ((0 : Nat) : Int)) (by omega) (by omega)]
    have ha : (BitVec.ofInt 64 (0 - ((0 : Nat) : Int))) = 0#64 := by decide
    rw [ha, BitVec.xor_zero, BitVec.toNat_ofInt]
    have e : ((((((n / 2 : Nat) : Int) % ((2 ^ 64 : Nat) : Int)).toNat : Nat)) : Int) = ((n / 2 : Nat) : Int) := by omega
    rw [e, wrap_i64 (by omega) (by omega)]

end Go.Proofs.Ytioechdfghglhaa
