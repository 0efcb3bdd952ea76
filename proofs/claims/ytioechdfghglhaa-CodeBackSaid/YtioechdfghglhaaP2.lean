/- Numbers with signs, texts, truths as bytes, and back: plain Lean, no program in sight. -/
import Derived.Test.YtioechdfghglhaaP1
namespace Go.Proofs.Ytioechdfghglhaa
set_option linter.unusedVariables false
set_option linter.unusedSimpArgs false
open Go Go.RowKit SL

def zig (n : Int) : Nat := if n < 0 then (-(n + 1)).toNat * 2 + 1 else n.toNat * 2
def encInt (n : Int) : List UInt8 := encNum (zig n)
def encText (s : List UInt8) : List UInt8 := encNum s.length ++ s
def b01 (b : Bool) : Nat := if b then 1 else 0
def encBool (b : Bool) : List UInt8 := encNum (b01 b)

def isI64 (n : Int) : Prop := -9223372036854775808 ≤ n ∧ n ≤ 9223372036854775807

theorem zig_lt {n : Int} (h : isI64 n) : zig n < 18446744073709551616 := by
  unfold zig; unfold isI64 at h
  split <;> omega

theorem zig_inj {a b : Int} (h : zig a = zig b) : a = b := by
  unfold zig at h
  split at h <;> split at h <;> omega

/-- What a number's bytes tell, from the place i on; none: they can't be read. -/
def decN (i : Nat) : List UInt8 → Option (Nat × List UInt8)
  | [] => none
  | x :: l => if 9 < i ∨ (i = 9 ∧ 1 < x.toNat) then none
    else if x.toNat < 128 then (if x.toNat = 0 ∧ 0 < i then none else some (x.toNat, l))
    else match decN (i + 1) l with
      | none => none
      | some (v, r) => some (x.toNat - 128 + 128 * v, r)

theorem decN_enc_gen : ∀ (k i n : Nat) (l : List UInt8), i + k = 9 → n < 128 ^ k * 2 → (0 < i → 0 < n) → decN i (encNum n ++ l) = some (n, l)
  | 0, i, n, l, hi, hn, h0 => by
    have : n < 2 := by simpa using hn
    rw [encNum_lt (by omega)]
    have hx : (UInt8.ofNat n).toNat = n := by simp; omega
    simp only [List.cons_append, List.nil_append, decN, hx]
    rw [if_neg (by omega), if_pos (by omega), if_neg (by omega)]
  | k + 1, i, n, l, hi, hn, h0 => by
    by_cases h : n < 128
    · rw [encNum_lt h]
      have hx : (UInt8.ofNat n).toNat = n := by simp; omega
      simp only [List.cons_append, List.nil_append, decN, hx]
      rw [if_neg (by omega), if_pos (by omega), if_neg (by omega)]
    · rw [encNum_ge (by omega)]
      have hx : (UInt8.ofNat (n % 128 + 128)).toNat = n % 128 + 128 := by simp; omega
      have ih := decN_enc_gen k (i + 1) (n / 128) l (by omega) (by rw [Nat.div_lt_iff_lt_mul (by decide)]; rw [Nat.pow_succ] at hn; omega) (by omega)
      simp only [List.cons_append, decN, hx, ih]
      rw [if_neg (by omega), if_neg (by omega)]
      rw [show n % 128 + 128 - 128 + 128 * (n / 128) = n by omega]

theorem decN_enc {n : Nat} (h : n < 18446744073709551616) (l : List UInt8) : decN 0 (encNum n ++ l) = some (n, l) := decN_enc_gen 9 0 n l rfl h (by omega)

theorem decN_lt : ∀ (k i : Nat) (l : List UInt8) (v : Nat) (r : List UInt8), i + k = 9 → decN i l = some (v, r) → v < 128 ^ k * 2
  | 0, i, [], v, r, hi, h => by simp [decN] at h
  | 0, i, x :: l, v, r, hi, h => by
    simp only [decN] at h
    split at h
    · cases h
    · split at h
      · split at h
        · cases h
        · simp only [Option.some.injEq, Prod.mk.injEq] at h; simp; omega
      · split at h
        · cases h
        · rename_i h1 h2 _ _ _ h4
          exfalso
          have : 9 < i + 1 := by omega
          rename_i l' _ _
          cases l with
          | nil => simp [decN] at h4
          | cons y l => simp [decN, this] at h4
  | k + 1, i, [], v, r, hi, h => by simp [decN] at h
  | k + 1, i, x :: l, v, r, hi, h => by
    have hx := x.toNat_lt
    simp only [decN] at h
    split at h
    · cases h
    · split at h
      · split at h
        · cases h
        · simp only [Option.some.injEq, Prod.mk.injEq] at h
          have : 0 < 128 ^ k := Nat.pow_pos (by decide)
          rw [Nat.pow_succ]; omega
      · split at h
        · cases h
        · rename_i v' r' h4
          have ih := decN_lt k (i + 1) l v' r' (by omega) h4
          simp only [Option.some.injEq, Prod.mk.injEq] at h
          rw [Nat.pow_succ]; omega

theorem decN_lt64 {l : List UInt8} {v : Nat} {r : List UInt8} (h : decN 0 l = some (v, r)) : v < 18446744073709551616 := decN_lt 9 0 l v r rfl h

theorem decN_rest : ∀ (i : Nat) (l : List UInt8) (v : Nat) (r : List UInt8), decN i l = some (v, r) → ∃ p, l = p ++ r ∧ p ≠ []
  | i, [], v, r, h => by simp [decN] at h
  | i, x :: l, v, r, h => by
    simp only [decN] at h
    split at h
    · cases h
    · split at h
      · split at h
        · cases h
        · simp only [Option.some.injEq, Prod.mk.injEq] at h; exact ⟨[x], by simp [h.2], by simp⟩
      · split at h
        · cases h
        · rename_i v' r' h4
          obtain ⟨p, hp, _⟩ := decN_rest (i + 1) l v' r' h4
          simp only [Option.some.injEq, Prod.mk.injEq] at h
          exact ⟨x :: p, by rw [hp, h.2]; rfl, by simp⟩

def unzig (n : Nat) : Int := if n % 2 = 1 then -((n / 2 : Nat) : Int) - 1 else ((n / 2 : Nat) : Int)

theorem unzig_zig (n : Int) : unzig (zig n) = n := by
  unfold zig
  split <;> (unfold unzig; split <;> omega)

theorem unzig_i64 {n : Nat} (h : n < 18446744073709551616) : isI64 (unzig n) := by
  unfold unzig isI64
  split <;> omega

/-- A number with a sign, read. -/
def decI (l : List UInt8) : Option (Int × List UInt8) := (decN 0 l).map fun p => (unzig p.1, p.2)

theorem decI_enc {n : Int} (h : isI64 n) (l : List UInt8) : decI (encInt n ++ l) = some (n, l) := by
  unfold decI encInt
  rw [decN_enc (zig_lt h), Option.map_some, unzig_zig]

/-- A text, read. -/
def decT (l : List UInt8) : Option (List UInt8 × List UInt8) := match decN 0 l with
  | none => none
  | some (n, r) => if n ≤ r.length then some (r.take n, r.drop n) else none

theorem decT_enc {s : List UInt8} (h : s.length < 18446744073709551616) (l : List UInt8) : decT (encText s ++ l) = some (s, l) := by
  unfold decT encText
  rw [List.append_assoc, decN_enc h]
  simp

def decB : List UInt8 → Option (Bool × List UInt8)
  | [] => none
  | x :: l => if x.toNat ≤ 1 then some (x.toNat == 1, l) else none

theorem encBool_eq (b : Bool) : encBool b = [if b then 1 else 0] := by
  unfold encBool b01
  rw [encNum_lt (by split <;> omega)]
  cases b <;> rfl

theorem decB_enc (b : Bool) (l : List UInt8) : decB (encBool b ++ l) = some (b, l) := by
  rw [encBool_eq]
  cases b <;> rfl

end Go.Proofs.Ytioechdfghglhaa
