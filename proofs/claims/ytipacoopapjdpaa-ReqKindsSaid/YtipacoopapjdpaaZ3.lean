/- Merged: the program logic, plain laws and walks (each part's first row says what it is); no conditions of its own. -/
import Derived.Test.YtipacoopapjdpaaZ2

/- Numbers, texts and summaries as bytes: plain Lean, no program in sight. -/
namespace Go.Proofs.Ytipacoopapjdpaa
set_option linter.unusedVariables false
set_option linter.unusedSimpArgs false
open Go Go.RowKit SL

def encNum (n : Nat) : List UInt8 := if h : n < 128 then [UInt8.ofNat n] else UInt8.ofNat (n % 128 + 128) :: encNum (n / 128)
termination_by n
decreasing_by omega

theorem encNum_lt {n : Nat} (h : n < 128) : encNum n = [UInt8.ofNat n] := by rw [encNum]; simp [h]
theorem encNum_ge {n : Nat} (h : 128 ≤ n) : encNum n = UInt8.ofNat (n % 128 + 128) :: encNum (n / 128) := by rw [encNum]; simp [show ¬ n < 128 by omega]

theorem encNum_len_pow : ∀ (k n : Nat), n < 128 ^ (k + 1) → (encNum n).length ≤ k + 1
  | 0, n, h => by rw [encNum_lt (by simpa using h)]; simp
  | k + 1, n, h => by
    by_cases h1 : n < 128
    · rw [encNum_lt h1]; simp
    · rw [encNum_ge (by omega)]
      have := encNum_len_pow k (n / 128) (by rw [Nat.div_lt_iff_lt_mul (by decide), ← Nat.pow_succ]; exact h)
      simp; exact this

theorem encNum_len {n : Nat} (h : n < 18446744073709551616) : (encNum n).length ≤ 10 := encNum_len_pow 9 n (Nat.lt_trans h (by decide))

theorem encNum_pos (n : Nat) : 0 < (encNum n).length := by
  by_cases h : n < 128
  · rw [encNum_lt h]; simp
  · rw [encNum_ge (by omega)]; simp

set_option maxRecDepth 4000 in
theorem or_128 : ∀ y : Fin 256, y.val ||| 128 = y.val % 128 + 128 := by decide

theorem wrap_u8_mod (n : Int) : IntKind.u8.wrap n = n % 256 := by
  rw [IntKind.wrap_u8]

theorem hi_byte (x : Nat) : V.int .u8 (IntKind.u8.wrap ((BitVec.ofInt 8 (IntKind.u8.wrap (x : Int)) ||| BitVec.ofInt 8 128).toNat : Int)) = byteV (UInt8.ofNat (x % 128 + 128)) := by
  have e : (BitVec.ofInt 8 (IntKind.u8.wrap (x : Int)) ||| BitVec.ofInt 8 128).toNat = x % 128 + 128 := by
    rw [BitVec.toNat_or, wrap_u8_mod]
    have h1 : (BitVec.ofInt 8 ((x : Int) % 256)).toNat = x % 256 := by
      rw [BitVec.toNat_ofInt]; omega
    have h2 : (BitVec.ofInt 8 128).toNat = 128 := by decide
    rw [h1, h2]
    have := or_128 ⟨x % 256, by omega⟩
    simp only at this
    rw [this]; omega
  unfold byteV
  rw [e, wrap_u8_mod]
  congr 1

theorem lo_byte (x : Nat) : V.int .u8 (IntKind.u8.wrap (x : Int)) = byteV (UInt8.ofNat x) := by
  unfold byteV
  rw [wrap_u8_mod]
  congr 1

theorem len_eq {a b : Nat} (h : a = b) : D.val (.int .i64 (a : Int)) = D.val (.int .i64 (b : Int)) := by rw [h]

theorem shr7 (x : Nat) : D.val (.int .u64 (Int.fdiv (x : Int) (2 ^ (min (7 : Int).toNat IntKind.u64.bits)))) = D.val (.int .u64 ((x / 128 : Nat) : Int)) := by
  have : min (7 : Int).toNat IntKind.u64.bits = 7 := by decide
  rw [this]
  have : Int.fdiv (x : Int) (2 ^ 7) = ((x / 128 : Nat) : Int) := by
    rw [Int.fdiv_eq_ediv_of_nonneg _ (by decide)]
    have : (2 : Int) ^ 7 = 128 := by decide
    rw [this]; omega
  rw [this]

def u64V (n : Nat) : V := .int .u64 n
def i64V (n : Int) : V := .int .i64 n
def strV (l : List UInt8) : V := .str l
def boolV (b : Bool) : V := .bool b

theorem take_snoc {α : Type} {l : List α} {k : Nat} (h : k < l.length) : l.take (k + 1) = l.take k ++ [l[k]] := by
  rw [List.take_succ_eq_append_getElem h]

theorem flat_take_len (ns : List Nat) (h : ∀ n ∈ ns, n < 18446744073709551616) (k : Nat) : ((ns.take k).flatMap encNum).length ≤ 10 * k := by
  induction k with
  | zero => simp
  | succ k ih =>
    by_cases hk : k < ns.length
    · rw [take_snoc hk, List.flatMap_append, List.length_append]
      have := encNum_len (h ns[k] (List.getElem_mem hk))
      simp only [List.flatMap_cons, List.flatMap_nil, List.append_nil]; omega
    · rw [List.take_of_length_le (by omega)] at ih ⊢
      omega

end Go.Proofs.Ytipacoopapjdpaa

/- Numbers with signs, texts, truths as bytes, and back: plain Lean, no program in sight. -/
namespace Go.Proofs.Ytipacoopapjdpaa
set_option linter.unusedVariables false
set_option linter.unusedSimpArgs false
open Go Go.RowKit SL

def zig (n : Int) : Nat := if n < 0 then (-(n + 1)).toNat * 2 + 1 else n.toNat * 2
def encInt (n : Int) : List UInt8 := encNum (zig n)
def encText (s : List UInt8) : List UInt8 := encNum s.length ++ s
def b01 (b : Bool) : Nat := if b then 1 else 0
def encBool (b : Bool) : List UInt8 := encNum (b01 b)

def isI64 (n : Int) : Prop := -9223372036854775808 ≤ n ∧ n ≤ 9223372036854775807

theorem zig_lt {n : Int} (h : isI64 n) : zig n < 18446744073709551616 := by
  unfold zig; unfold isI64 at h
  split <;> omega

theorem zig_inj {a b : Int} (h : zig a = zig b) : a = b := by
  unfold zig at h
  split at h <;> split at h <;> omega

/-- What a number's bytes tell, from the place i on; none: they can't be read. -/
def decN (i : Nat) : List UInt8 → Option (Nat × List UInt8)
  | [] => none
  | x :: l => if 9 < i ∨ (i = 9 ∧ 1 < x.toNat) then none
    else if x.toNat < 128 then (if x.toNat = 0 ∧ 0 < i then none else some (x.toNat, l))
    else match decN (i + 1) l with
      | none => none
      | some (v, r) => some (x.toNat - 128 + 128 * v, r)

theorem decN_enc_gen : ∀ (k i n : Nat) (l : List UInt8), i + k = 9 → n < 128 ^ k * 2 → (0 < i → 0 < n) → decN i (encNum n ++ l) = some (n, l)
  | 0, i, n, l, hi, hn, h0 => by
    have : n < 2 := by simpa using hn
    rw [encNum_lt (by omega)]
    have hx : (UInt8.ofNat n).toNat = n := by simp; omega
    simp only [List.cons_append, List.nil_append, decN, hx]
    rw [if_neg (by omega), if_pos (by omega), if_neg (by omega)]
  | k + 1, i, n, l, hi, hn, h0 => by
    by_cases h : n < 128
    · rw [encNum_lt h]
      have hx : (UInt8.ofNat n).toNat = n := by simp; omega
      simp only [List.cons_append, List.nil_append, decN, hx]
      rw [if_neg (by omega), if_pos (by omega), if_neg (by omega)]
    · rw [encNum_ge (by omega)]
      have hx : (UInt8.ofNat (n % 128 + 128)).toNat = n % 128 + 128 := by simp; omega
      have ih := decN_enc_gen k (i + 1) (n / 128) l (by omega) (by rw [Nat.div_lt_iff_lt_mul (by decide)]; rw [Nat.pow_succ] at hn; omega) (by omega)
      simp only [List.cons_append, decN, hx, ih]
      rw [if_neg (by omega), if_neg (by omega)]
      rw [show n % 128 + 128 - 128 + 128 * (n / 128) = n by omega]

theorem decN_enc {n : Nat} (h : n < 18446744073709551616) (l : List UInt8) : decN 0 (encNum n ++ l) = some (n, l) := decN_enc_gen 9 0 n l rfl h (by omega)

theorem decN_lt : ∀ (k i : Nat) (l : List UInt8) (v : Nat) (r : List UInt8), i + k = 9 → decN i l = some (v, r) → v < 128 ^ k * 2
  | 0, i, [], v, r, hi, h => by simp [decN] at h
  | 0, i, x :: l, v, r, hi, h => by
    simp only [decN] at h
    split at h
    · cases h
    · split at h
      · split at h
        · cases h
        · simp only [Option.some.injEq, Prod.mk.injEq] at h; simp; omega
      · split at h
        · cases h
        · rename_i h1 h2 _ _ _ h4
          exfalso
          have : 9 < i + 1 := by omega
          rename_i l' _ _
          cases l with
          | nil => simp [decN] at h4
          | cons y l => simp [decN, this] at h4
  | k + 1, i, [], v, r, hi, h => by simp [decN] at h
  | k + 1, i, x :: l, v, r, hi, h => by
    have hx := x.toNat_lt
    simp only [decN] at h
    split at h
    · cases h
    · split at h
      · split at h
        · cases h
        · simp only [Option.some.injEq, Prod.mk.injEq] at h
          have : 0 < 128 ^ k := Nat.pow_pos (by decide)
          rw [Nat.pow_succ]; omega
      · split at h
        · cases h
        · rename_i v' r' h4
          have ih := decN_lt k (i + 1) l v' r' (by omega) h4
          simp only [Option.some.injEq, Prod.mk.injEq] at h
          rw [Nat.pow_succ]; omega

theorem decN_lt64 {l : List UInt8} {v : Nat} {r : List UInt8} (h : decN 0 l = some (v, r)) : v < 18446744073709551616 := decN_lt 9 0 l v r rfl h

theorem decN_rest : ∀ (i : Nat) (l : List UInt8) (v : Nat) (r : List UInt8), decN i l = some (v, r) → ∃ p, l = p ++ r ∧ p ≠ []
  | i, [], v, r, h => by simp [decN] at h
  | i, x :: l, v, r, h => by
    simp only [decN] at h
    split at h
    · cases h
    · split at h
      · split at h
        · cases h
        · simp only [Option.some.injEq, Prod.mk.injEq] at h; exact ⟨[x], by simp [h.2], by simp⟩
      · split at h
        · cases h
        · rename_i v' r' h4
          obtain ⟨p, hp, _⟩ := decN_rest (i + 1) l v' r' h4
          simp only [Option.some.injEq, Prod.mk.injEq] at h
          exact ⟨x :: p, by rw [hp, h.2]; rfl, by simp⟩

def unzig (n : Nat) : Int := if n % 2 = 1 then -((n / 2 : Nat) : Int) - 1 else ((n / 2 : Nat) : Int)

theorem unzig_zig (n : Int) : unzig (zig n) = n := by
  unfold zig
  split <;> (unfold unzig; split <;> omega)

theorem unzig_i64 {n : Nat} (h : n < 18446744073709551616) : isI64 (unzig n) := by
  unfold unzig isI64
  split <;> omega

/-- A number with a sign, read. -/
def decI (l : List UInt8) : Option (Int × List UInt8) := (decN 0 l).map fun p => (unzig p.1, p.2)

theorem decI_enc {n : Int} (h : isI64 n) (l : List UInt8) : decI (encInt n ++ l) = some (n, l) := by
  unfold decI encInt
  rw [decN_enc (zig_lt h), Option.map_some, unzig_zig]

/-- A text, read. -/
def decT (l : List UInt8) : Option (List UInt8 × List UInt8) := match decN 0 l with
  | none => none
  | some (n, r) => if n ≤ r.length then some (r.take n, r.drop n) else none

theorem decT_enc {s : List UInt8} (h : s.length < 18446744073709551616) (l : List UInt8) : decT (encText s ++ l) = some (s, l) := by
  unfold decT encText
  rw [List.append_assoc, decN_enc h]
  simp

def decB : List UInt8 → Option (Bool × List UInt8)
  | [] => none
  | x :: l => if x.toNat ≤ 1 then some (x.toNat == 1, l) else none

theorem encBool_eq (b : Bool) : encBool b = [if b then 1 else 0] := by
  unfold encBool b01
  rw [encNum_lt (by split <;> omega)]
  cases b <;> rfl

theorem decB_enc (b : Bool) (l : List UInt8) : decB (encBool b ++ l) = some (b, l) := by
  rw [encBool_eq]
  cases b <;> rfl

end Go.Proofs.Ytipacoopapjdpaa

/- What single operations make of bytes and numbers: plain Lean. -/
namespace Go.Proofs.Ytipacoopapjdpaa
set_option linter.unusedVariables false
set_option linter.unusedSimpArgs false
open Go Go.RowKit SL

theorem flat_len {α : Type} {f : α → List UInt8} {c : Nat} {ns : List α} (h : ∀ n ∈ ns, (f n).length ≤ c) (k : Nat) : ((ns.take k).flatMap f).length ≤ c * k := by
  induction k with
  | zero => simp
  | succ k ih =>
    by_cases hk : k < ns.length
    · rw [take_snoc hk, List.flatMap_append, List.length_append]
      have := h ns[k] (List.getElem_mem hk)
      simp only [List.flatMap_cons, List.flatMap_nil, List.append_nil, Nat.mul_succ]; omega
    · rw [List.take_of_length_le (by omega)] at ih ⊢
      rw [Nat.mul_succ]; omega

theorem flat_snoc {α : Type} {f : α → List UInt8} {ns : List α} {k : Nat} (h : k < ns.length) (l : List UInt8) : l ++ (ns.take (k + 1)).flatMap f = l ++ (ns.take k).flatMap f ++ f ns[k] := by
  rw [take_snoc h, List.flatMap_append, List.append_assoc]; simp

theorem zig_bits {x : Int} (h : isI64 x) :
    V.int .u64 (IntKind.u64.wrap ((BitVec.ofInt IntKind.u64.bits (IntKind.u64.wrap (IntKind.u64.wrap x * 2 ^ (min (1 : Int).toNat IntKind.u64.bits))) ^^^
      BitVec.ofInt IntKind.u64.bits (IntKind.u64.wrap (x.fdiv (2 ^ (min (63 : Int).toNat IntKind.i64.bits))))).toNat : Int)) = u64V (zig x) := by
  have e1 : min (1 : Int).toNat IntKind.u64.bits = 1 := by decide
  have e2 : min (63 : Int).toNat IntKind.i64.bits = 63 := by decide
  have hw : ∀ z : Int, IntKind.u64.wrap z = z % 18446744073709551616 := fun z => by
    unfold IntKind.wrap; simp only [IntKind.bits, IntKind.signed, Bool.false_and, Bool.false_eq_true, if_false]; omega
  have h2 : (2 : Int) ^ 63 = 9223372036854775808 := by decide
  unfold isI64 at h
  rw [e1, e2, hw, hw, hw, hw, Int.fdiv_eq_ediv_of_nonneg _ (by decide), h2]
  unfold u64V zig
  have hb : IntKind.u64.bits = 64 := rfl
  rw [hb]
  congr 1
  by_cases hx : x < 0
  · rw [if_pos hx]
    have : x / 9223372036854775808 % 18446744073709551616 = 18446744073709551615 := by omega
    rw [this]
    have ha : (BitVec.ofInt 64 18446744073709551615) = BitVec.allOnes 64 := by decide
    rw [ha, BitVec.xor_allOnes, BitVec.toNat_not, BitVec.toNat_ofInt]
    omega
  · rw [if_neg hx]
    have : x / 9223372036854775808 % 18446744073709551616 = 0 := by omega
    rw [this]
    have ha : (BitVec.ofInt 64 0) = 0#64 := by decide
    rw [ha, BitVec.xor_zero, BitVec.toNat_ofInt]
    omega

theorem wrapped_u64 (x : Nat) (h : x < 18446744073709551616) : IntKind.u64.wrap (x : Int) = (x : Int) := wrap_u64 (by omega) (by omega)

theorem and_mask : ∀ y : Fin 256, (BitVec.ofInt 8 (y.val : Int) &&& ~~~ BitVec.ofInt 8 128).toNat = y.val % 128 := by
  set_option maxRecDepth 8000 in decide

theorem and_top : ∀ y : Fin 256, (((BitVec.ofInt 8 (y.val : Int) &&& BitVec.ofInt 8 128).toNat : Int) == 0) = decide (y.val < 128) := by
  set_option maxRecDepth 8000 in decide

theorem mask_byte (x : UInt8) : D.val (.int .u8 (IntKind.u8.wrap ((BitVec.ofInt IntKind.u8.bits (x.toNat : Int) &&& ~~~ BitVec.ofInt IntKind.u8.bits 128).toNat : Int))) = .val (.int .u8 ((x.toNat % 128 : Nat) : Int)) := by
  have h := and_mask ⟨x.toNat, x.toNat_lt⟩
  simp only at h
  show D.val (.int .u8 (IntKind.u8.wrap ((BitVec.ofInt 8 (x.toNat : Int) &&& ~~~ BitVec.ofInt 8 128).toNat : Int))) = _
  rw [h, wrap_u8 (by omega) (by omega)]

theorem top_byte (x : UInt8) : D.val (.bool (IntKind.u8.wrap ((BitVec.ofInt IntKind.u8.bits (x.toNat : Int) &&& BitVec.ofInt IntKind.u8.bits 128).toNat : Int) == 0)) = .val (.bool (decide (x.toNat < 128))) := by
  have h := and_top ⟨x.toNat, x.toNat_lt⟩
  simp only at h
  show D.val (.bool (IntKind.u8.wrap ((BitVec.ofInt 8 (x.toNat : Int) &&& BitVec.ofInt 8 128).toNat : Int) == 0)) = _
  have hlt : (BitVec.ofInt 8 (x.toNat : Int) &&& BitVec.ofInt 8 128).toNat < 256 := BitVec.isLt _
  rw [wrap_u8 (by omega) (by omega), h]

theorem shl_part {x i : Nat} (h : i < 9 ∧ x < 128 ∨ i = 9 ∧ x ≤ 1) :
    D.val (.int .u64 (IntKind.u64.wrap ((x : Int) * 2 ^ (min (((7 * i : Nat) : Int)).toNat IntKind.u64.bits)))) = .val (.int .u64 ((128 ^ i * x : Nat) : Int)) := by
  have e : min (((7 * i : Nat) : Int)).toNat IntKind.u64.bits = 7 * i := by
    show min _ 64 = _
    omega
  rw [e]
  have h1 : (x : Int) * 2 ^ (7 * i) = ((128 ^ i * x : Nat) : Int) := by
    have e3 : (128 : Nat) ^ i = 2 ^ (7 * i) := by rw [Nat.pow_mul]
    rw [e3, Int.mul_comm, Int.natCast_mul, Int.natCast_pow]; rfl
  have h2 : 128 ^ i * x < 18446744073709551616 := by
    rcases h with ⟨h, h'⟩ | ⟨rfl, h'⟩
    · have : 128 ^ i ≤ 128 ^ 8 := Nat.pow_le_pow_right (by decide) (by omega)
      have : 128 ^ i * x ≤ 128 ^ 8 * 127 := Nat.mul_le_mul this (by omega)
      have : (128 : Nat) ^ 8 * 127 < 18446744073709551616 := by decide
      omega
    · have : 128 ^ 9 * x ≤ 128 ^ 9 * 1 := Nat.mul_le_mul (Nat.le_refl _) h'
      have : (128 : Nat) ^ 9 * 1 < 18446744073709551616 := by decide
      omega
  rw [h1, wrapped_u64 _ h2]

theorem or_part {n x i : Nat} (hn : n < 128 ^ i) (h : i < 9 ∧ x < 128 ∨ i = 9 ∧ x ≤ 1) :
    D.val (.int .u64 (IntKind.u64.wrap ((BitVec.ofInt IntKind.u64.bits (n : Int) ||| BitVec.ofInt IntKind.u64.bits ((128 ^ i * x : Nat) : Int)).toNat : Int))) = .val (.int .u64 ((n + 128 ^ i * x : Nat) : Int)) := by
  have h2 : n + 128 ^ i * x < 18446744073709551616 := by
    rcases h with ⟨h, h'⟩ | ⟨rfl, h'⟩
    · have : 128 ^ i ≤ 128 ^ 8 := Nat.pow_le_pow_right (by decide) (by omega)
      have : 128 ^ i * x ≤ 128 ^ 8 * 127 := Nat.mul_le_mul this (by omega)
      have : (128 : Nat) ^ 8 * 127 + 128 ^ 8 < 18446744073709551616 := by decide
      omega
    · have : 128 ^ 9 * x ≤ 128 ^ 9 * 1 := Nat.mul_le_mul (Nat.le_refl _) h'
      have : (128 : Nat) ^ 9 * 1 + 128 ^ 9 ≤ 18446744073709551616 := by decide
      omega
  have hor : n ||| 128 ^ i * x = n + 128 ^ i * x := by
    have e : (128 : Nat) ^ i = 2 ^ (7 * i) := by rw [Nat.pow_mul]
    rw [e] at hn ⊢
    rw [Nat.or_comm, ← Nat.two_pow_add_eq_or_of_lt hn, Nat.add_comm]
  show D.val (.int .u64 (IntKind.u64.wrap ((BitVec.ofInt 64 (n : Int) ||| BitVec.ofInt 64 ((128 ^ i * x : Nat) : Int)).toNat : Int))) = _
  rw [BitVec.toNat_or, BitVec.toNat_ofInt, BitVec.toNat_ofInt]
  have e1 : (((n : Int) % ((2 ^ 64 : Nat) : Int))).toNat = n := by omega
  have e2 : ((((128 ^ i * x : Nat) : Int) % ((2 ^ 64 : Nat) : Int))).toNat = 128 ^ i * x := by omega
  rw [e1, e2, hor, wrapped_u64 _ h2]

theorem decN_last {i : Nat} {x : UInt8} {m : List UInt8} (h : i < 9 ∨ i = 9 ∧ x.toNat ≤ 1) (hx : x.toNat < 128) (h0 : x.toNat ≠ 0 ∨ i = 0) : decN i (x :: m) = some (x.toNat, m) := by
  simp only [decN]
  rw [if_neg (by omega), if_pos hx, if_neg (by omega)]
theorem decN_more {i : Nat} {x : UInt8} {m : List UInt8} (h : i < 9 ∨ i = 9 ∧ x.toNat ≤ 1) (hx : ¬ x.toNat < 128) : decN i (x :: m) = (decN (i + 1) m).map fun p => (x.toNat - 128 + 128 * p.1, p.2) := by
  simp only [decN]
  rw [if_neg (by omega), if_neg hx]
  cases decN (i + 1) m with
  | none => rfl
  | some p => rfl
theorem decN_nil (i : Nat) : decN i [] = none := rfl
theorem decN_long {i : Nat} {m : List UInt8} (h : ¬ i < 10) : decN i m = none := by
  cases m with
  | nil => rfl
  | cons x m => simp only [decN]; rw [if_pos (by omega)]
theorem decN_great {i : Nat} {x : UInt8} {m : List UInt8} (h : ¬ i < 9) (hx : ¬ x.toNat ≤ 1) : decN i (x :: m) = none := by
  simp only [decN]; rw [if_pos (by omega)]
theorem decN_nought {i : Nat} {x : UInt8} {m : List UInt8} (hx : x.toNat = 0) (h0 : i ≠ 0) : decN i (x :: m) = none := by
  simp only [decN]
  split
  · rfl
  · rw [if_pos (by omega), if_pos (by omega)]

theorem step_dec {i n : Nat} {x : UInt8} {m l : List UInt8} (hd : decN 0 l = (decN i (x :: m)).map fun p => (n + 128 ^ i * p.1, p.2)) (h : i < 9 ∨ i = 9 ∧ x.toNat ≤ 1) (hx : ¬ x.toNat < 128) :
    decN 0 l = (decN (i + 1) m).map fun p => (n + 128 ^ i * (x.toNat % 128) + 128 ^ (i + 1) * p.1, p.2) := by
  rw [hd, decN_more h hx, Option.map_map]
  congr 1
  funext p
  have : x.toNat - 128 = x.toNat % 128 := by have := x.toNat_lt; omega
  simp only [Function.comp, Prod.mk.injEq, and_true]
  rw [this, Nat.mul_add, Nat.pow_succ, Nat.mul_assoc, Nat.add_assoc]

theorem step_lt {i n x : Nat} (h : n < 128 ^ i) (hx : x < 128) : n + 128 ^ i * x < 128 ^ (i + 1) := by
  have : 128 ^ i * x ≤ 128 ^ i * 127 := Nat.mul_le_mul (Nat.le_refl _) (by omega)
  rw [Nat.pow_succ]; omega

end Go.Proofs.Ytipacoopapjdpaa

/- A reader's state, as pure data; what reading does to it. -/
namespace Go.Proofs.Ytipacoopapjdpaa
set_option linter.unusedVariables false
set_option linter.unusedSimpArgs false
open Go Go.RowKit SL

@[reducible] def rd (q : Nat) (l : List UInt8) (f : Bool) : Chunk := .blk q [.val (.list (l.map byteV)), .val (.bool f)]

theorem start_dec (l : List UInt8) : decN 0 l = (decN 0 l).map fun p => (0 + 128 ^ 0 * p.1, p.2) := by
  cases decN 0 l with
  | none => rfl
  | some p => simp

theorem len_pos_false {m : List UInt8} (h : decide ((((m.map byteV).length : Nat) : Int) > 0) = false) : m = [] := by
  cases m with
  | nil => rfl
  | cons x m =>
    have := of_decide_eq_false h
    simp only [List.length_map, List.length_cons] at this
    omega

theorem len_pos_true {m : List UInt8} (h : decide ((((m.map byteV).length : Nat) : Int) > 0) = true) : ∃ x m', m = x :: m' := by
  cases m with
  | nil => simp at h
  | cons x m => exact ⟨x, m, rfl⟩

theorem fin_dec {i n : Nat} {x : UInt8} {m l : List UInt8} (hd : decN 0 l = (decN i (x :: m)).map fun p => (n + 128 ^ i * p.1, p.2)) (h : decN i (x :: m) = some (x.toNat, m)) (hx : x.toNat < 128) :
    decN 0 l = some (n + 128 ^ i * (x.toNat % 128), m) := by rw [hd, h, Nat.mod_eq_of_lt hx]; rfl

theorem drop_one (x : UInt8) (m : List UInt8) : D.val (.list ((((x :: m).map byteV).drop 1).take (((x :: m).map byteV).length - 1))) = .val (.list (m.map byteV)) := by
  rw [List.take_of_length_le (by simp)]; rfl

/-- How a reader stands: what is left; none: it has failed. -/
def Rdr (q : Nat) : Option (List UInt8) → Chunk → Prop
  | some l, c => c = rd q l false ∧ l.length ≤ 100000000
  | none, c => ∃ r, c = rd q r true

def after {α : Type} (z : α) : Option (α × List UInt8) → α × Option (List UInt8)
  | some (n, r) => (n, some r)
  | none => (z, none)
def rdOf {α : Type} (dec : List UInt8 → Option (α × List UInt8)) (z : α) : Option (List UInt8) → α × Option (List UInt8)
  | some l => after z (dec l)
  | none => (z, none)

theorem rdOf_good {α : Type} {dec : List UInt8 → Option (α × List UInt8)} {z v : α} {l r : List UInt8} (h : dec l = some (v, r)) : rdOf dec z (some l) = (v, some r) := by
  simp only [rdOf, h, after]
theorem rdOf_bad {α : Type} {dec : List UInt8 → Option (α × List UInt8)} {z : α} {l : List UInt8} (h : dec l = none) : rdOf dec z (some l) = (z, none) := by
  simp only [rdOf, h, after]

def GoodR {α : Type} (res : Option (α × List UInt8)) (mk : α → V) (x : D) (xs : List D) : Prop := ∃ v r, res = some (v, r) ∧ x = .val (.list (r.map byteV)) ∧ xs = [.val (mk v)]
def BadR {α : Type} (res : Option (α × List UInt8)) (x : D) : Prop := res = none ∧ ∃ r : List UInt8, x = .val (.list (r.map byteV))

theorem decN_len {l : List UInt8} {v : Nat} {r : List UInt8} (h : decN 0 l = some (v, r)) : r.length ≤ l.length := by
  obtain ⟨p, rfl, _⟩ := decN_rest 0 l v r h
  simp
theorem decI_len {l : List UInt8} {v : Int} {r : List UInt8} (h : decI l = some (v, r)) : r.length ≤ l.length := by
  unfold decI at h
  cases e : decN 0 l with
  | none => rw [e] at h; cases h
  | some p =>
    rw [e] at h
    simp only [Option.map_some, Option.some.injEq, Prod.mk.injEq] at h
    rw [← h.2]; exact decN_len (v := p.1) (by rw [e])
theorem decT_len {l : List UInt8} {v : List UInt8} {r : List UInt8} (h : decT l = some (v, r)) : r.length ≤ l.length := by
  unfold decT at h
  cases e : decN 0 l with
  | none => rw [e] at h; cases h
  | some p =>
    rw [e] at h
    have := decN_len (v := p.1) (r := p.2) (by rw [e])
    simp only at h
    split at h
    · simp only [Option.some.injEq, Prod.mk.injEq] at h
      rw [← h.2, List.length_drop]; omega
    · cases h
theorem decB_len {l : List UInt8} {v : Bool} {r : List UInt8} (h : decB l = some (v, r)) : r.length ≤ l.length := by
  cases l with
  | nil => cases h
  | cons x l =>
    simp only [decB] at h
    split at h
    · simp only [Option.some.injEq, Prod.mk.injEq] at h
      rw [← h.2]; simp
    · cases h

theorem len_u64 {r : List UInt8} (h : r.length ≤ 100000000) : D.val (.int .u64 (IntKind.u64.wrap ((r.map byteV).length : Int))) = .val (.int .u64 (r.length : Int)) := by
  rw [List.length_map, wrapped_u64 _ (by omega)]
theorem take_bytes (r : List UInt8) (n : Nat) : D.val (.list (((r.map byteV).drop 0).take (n - 0))) = .val (.list ((r.take n).map byteV)) := by
  rw [List.map_take]; rfl
theorem drop_bytes (r : List UInt8) (n : Nat) : D.val (.list (((r.map byteV).drop n).take ((r.map byteV).length - n))) = .val (.list ((r.drop n).map byteV)) := by
  rw [List.map_drop, List.take_of_length_le (by simp)]
theorem is_one (x : UInt8) : D.val (.bool ((x.toNat : Int) == 1)) = .val (boolV (x.toNat == 1)) := by
  unfold boolV
  have := x.toNat_lt
  by_cases h : x.toNat = 1
  · rw [h]; rfl
  · have h1 : ((x.toNat : Int) == 1) = false := by simp; omega
    have h2 : (x.toNat == 1) = false := by simp [h]
    rw [h1, h2]

def doneV : Option (List UInt8) → Int
  | some [] => 0
  | _ => 20

theorem unzig_bits {n : Nat} (h : n < 18446744073709551616) :
    D.val (.int .i64 (IntKind.i64.wrap ((BitVec.ofInt IntKind.i64.bits (IntKind.i64.wrap ((n : Int).fdiv (2 ^ (min (1 : Int).toNat IntKind.u64.bits)))) ^^^
      BitVec.ofInt IntKind.i64.bits (IntKind.i64.wrap (0 - IntKind.i64.wrap (IntKind.u64.wrap ((BitVec.ofInt IntKind.u64.bits (n : Int) &&& BitVec.ofInt IntKind.u64.bits 1).toNat : Int))))).toNat : Int))) = .val (i64V (unzig n)) := by
  have e1 : min (1 : Int).toNat IntKind.u64.bits = 1 := by decide
  have h1 : (BitVec.ofInt IntKind.u64.bits (n : Int) &&& BitVec.ofInt IntKind.u64.bits 1).toNat = n % 2 := by
    show (BitVec.ofInt 64 (n : Int) &&& BitVec.ofInt 64 1).toNat = n % 2
    have h2 : (BitVec.ofInt 64 1).toNat = 1 := by decide
    rw [BitVec.toNat_and, h2, BitVec.toNat_ofInt]
    have : ((n : Int) % ((2 ^ 64 : Nat) : Int)).toNat = n := by omega
    rw [this, Nat.and_one_is_mod]
  rw [e1, h1, Int.fdiv_eq_ediv_of_nonneg _ (by decide), wrapped_u64 _ (by omega)]
  have h3 : ((n : Int) / 2 ^ 1) = ((n / 2 : Nat) : Int) := by omega
  rw [h3, wrap_i64 (n := ((n / 2 : Nat) : Int)) (by omega) (by omega), wrap_i64 (n := ((n % 2 : Nat) : Int)) (by omega) (by omega)]
  unfold i64V unzig
  have hb : IntKind.i64.bits = 64 := rfl
  rw [hb]
  by_cases hn : n % 2 = 1
  · rw [if_pos hn, hn]
    rw [wrap_i64 (n := 0 - ((1 : Nat) : Int)) (by omega) (by omega)]
    have ha : (BitVec.ofInt 64 (0 - ((1 : Nat) : Int))) = BitVec.allOnes 64 := by decide
    rw [ha, BitVec.xor_allOnes, BitVec.toNat_not, BitVec.toNat_ofInt]
    have e : (((2 ^ 64 - 1 - (((n / 2 : Nat) : Int) % ((2 ^ 64 : Nat) : Int)).toNat : Nat)) : Int) = 18446744073709551615 - ((n / 2 : Nat) : Int) := by omega
    rw [e]
    congr 2
    unfold IntKind.wrap
    have e1 : (2 : Int) ^ IntKind.i64.bits = 18446744073709551616 := by decide
    have e2 : (2 : Int) ^ (IntKind.i64.bits - 1) = 9223372036854775808 := by decide
    rw [e1, e2]
    have : (IntKind.i64.signed && decide ((18446744073709551615 - ((n / 2 : Nat) : Int)) % 18446744073709551616 ≥ 9223372036854775808)) = true := by simp [IntKind.signed]; omega
    simp only [this, if_true]; omega
  · rw [if_neg hn, show n % 2 = 0 by omega]
    rw [wrap_i64 (n := 0 - ((0 : Nat) : Int)) (by omega) (by omega)]
    have ha : (BitVec.ofInt 64 (0 - ((0 : Nat) : Int))) = 0#64 := by decide
    rw [ha, BitVec.xor_zero, BitVec.toNat_ofInt]
    have e : ((((((n / 2 : Nat) : Int) % ((2 ^ 64 : Nat) : Int)).toNat : Nat)) : Int) = ((n / 2 : Nat) : Int) := by omega
    rw [e, wrap_i64 (by omega) (by omega)]

end Go.Proofs.Ytipacoopapjdpaa

/- Lists of numbers, texts and truths ads a statement's arguments; small facts of lists. -/
namespace Go.Proofs.Ytipacoopapjdpaa
set_option linter.unusedVariables false
set_option linter.unusedSimpArgs false
open Go Go.RowKit SL

theorem all_take_snoc {α : Type} {F : α → Prop} {l : List α} {k : Nat} (h : ∀ s ∈ l.take k, F s) (hk : k < l.length) (hF : F l[k]) : ∀ s ∈ l.take (k + 1), F s := fun s hs => by
  rw [take_snoc hk] at hs
  rcases List.mem_append.mp hs with hs | hs
  · exact h s hs
  · rw [List.mem_singleton.mp hs]; exact hF

theorem choose_all {α : Type} {f : α → V} {F : α → Prop} : ∀ (ys : List V), (∀ y ∈ ys, ∃ a, y = f a ∧ F a) → ∃ ads : List α, ys = ads.map f ∧ ∀ a ∈ ads, F a
  | [], _ => ⟨[], rfl, fun a h => absurd h (by simp)⟩
  | y :: ys, h => by
    obtain ⟨a, rfl, ha⟩ := h y (by simp)
    obtain ⟨ads, rfl, hs⟩ := choose_all ys fun y hy => h y (by simp [hy])
    exact ⟨a :: ads, rfl, fun b hb => by
      rcases List.mem_cons.mp hb with rfl | hb
      · exact ha
      · exact hs b hb⟩

/-- What covers a list's elements covers the list. -/
theorem cov_list {P : Program} {t e : TypeId} {sz : Nat} {α : Type} (f : α → V) {F : α → Prop} (mk : List V → V) (hmk : ∀ a, mk (f a).cells = f a) (ht : P.underlying t = some (.slice e)) (hc : P.cellsOf e = sz) (hsz : 0 < sz)
    (he : ∀ n, Covers P n e fun xs => ∃ a, xs = (f a).cells ∧ F a) : ∀ n, Covers P n t fun xs => ∃ ads : List α, xs = [.list (ads.map f)] ∧ (∀ a ∈ ads, F a) ∧ ads.length ≤ maxLen := fun n => by
  cases n with
  | zero => exact covers_zero
  | succ n =>
    refine (covers_slice mk ht hc hsz (he n) (fun xs h => by obtain ⟨a, rfl, _⟩ := h; rw [hmk])).mono fun xs h => ?_
    obtain ⟨ys, rfl, h1, h2⟩ := h
    obtain ⟨ads, rfl, h3⟩ := choose_all (f := f) (F := F) ys fun y hy => by
      obtain ⟨zs, ⟨a, rfl, ha⟩, rfl⟩ := h1 y hy
      exact ⟨a, hmk a, ha⟩
    exact ⟨ads, rfl, h3, by simpa using h2⟩

def hd1 (xs : List V) : V := xs.headD .nil

theorem cov_u64 {P : Program} {e : TypeId} (he : P.underlying e = some (.int .u64)) (n : Nat) : Covers P n e fun xs => ∃ a : Nat, xs = (u64V a).cells ∧ a < 18446744073709551616 :=
  (covers_int he).mono fun xs h => by
    obtain ⟨i, rfl, h1, h2⟩ := h
    have h1 : 0 ≤ i := h1
    have h2 : i ≤ 18446744073709551615 := h2
    exact ⟨i.toNat, by simp only [u64V, V.cells]; rw [show ((i.toNat : Nat) : Int) = i by omega], by omega⟩

theorem cov_i64 {P : Program} {e : TypeId} (he : P.underlying e = some (.int .i64)) (n : Nat) : Covers P n e fun xs => ∃ a : Int, xs = (i64V a).cells ∧ isI64 a :=
  (covers_int he).mono fun xs h => by
    obtain ⟨i, rfl, h1, h2⟩ := h
    exact ⟨i, rfl, h1, h2⟩

theorem cov_str {P : Program} {e : TypeId} (he : P.underlying e = some .string) (n : Nat) : Covers P n e fun xs => ∃ a : List UInt8, xs = (strV a).cells ∧ a.length ≤ maxLen :=
  (covers_str he).mono fun xs h => by
    obtain ⟨l, rfl, h⟩ := h
    exact ⟨l, rfl, h⟩

theorem cov_bool {P : Program} {e : TypeId} (he : P.underlying e = some .bool) (n : Nat) : Covers P n e fun xs => ∃ a : Bool, xs = (boolV a).cells ∧ True :=
  (covers_bool he).mono fun xs h => by
    obtain ⟨b, rfl⟩ := h
    exact ⟨b, rfl, trivial⟩

theorem cov_u8 {P : Program} {e : TypeId} (he : P.underlying e = some (.int .u8)) (n : Nat) : Covers P n e fun xs => ∃ a : UInt8, xs = (byteV a).cells ∧ True :=
  (covers_int he).mono fun xs h => by
    obtain ⟨i, rfl, h1, h2⟩ := h
    have h1 : 0 ≤ i := h1
    have h2 : i ≤ 255 := h2
    refine ⟨UInt8.ofNat i.toNat, ?_, trivial⟩
    simp only [byteV, V.cells]
    have : ((UInt8.ofNat i.toNat).toNat : Int) = i := by simp; omega
    rw [this]

theorem cov_u64s {P : Program} {t e : TypeId} (ht : P.underlying t = some (.slice e)) (he : P.underlying e = some (.int .u64)) (hc : P.cellsOf e = 1) : ∀ n, Covers P n t fun xs => ∃ ads : List (Nat), xs = [.list (ads.map u64V)] ∧ (∀ a ∈ ads, a < 18446744073709551616) ∧ ads.length ≤ maxLen := cov_list u64V hd1 (fun _ => rfl) ht hc (by decide) (cov_u64 he)
theorem cov_i64s {P : Program} {t e : TypeId} (ht : P.underlying t = some (.slice e)) (he : P.underlying e = some (.int .i64)) (hc : P.cellsOf e = 1) : ∀ n, Covers P n t fun xs => ∃ ads : List (Int), xs = [.list (ads.map i64V)] ∧ (∀ a ∈ ads, isI64 a) ∧ ads.length ≤ maxLen := cov_list i64V hd1 (fun _ => rfl) ht hc (by decide) (cov_i64 he)
theorem cov_strs {P : Program} {t e : TypeId} (ht : P.underlying t = some (.slice e)) (he : P.underlying e = some .string) (hc : P.cellsOf e = 1) : ∀ n, Covers P n t fun xs => ∃ ads : List (List UInt8), xs = [.list (ads.map strV)] ∧ (∀ a ∈ ads, a.length ≤ maxLen) ∧ ads.length ≤ maxLen := cov_list strV hd1 (fun _ => rfl) ht hc (by decide) (cov_str he)
theorem cov_bools {P : Program} {t e : TypeId} (ht : P.underlying t = some (.slice e)) (he : P.underlying e = some .bool) (hc : P.cellsOf e = 1) : ∀ n, Covers P n t fun xs => ∃ ads : List (Bool), xs = [.list (ads.map boolV)] ∧ (∀ a ∈ ads, True) ∧ ads.length ≤ maxLen := cov_list boolV hd1 (fun _ => rfl) ht hc (by decide) (cov_bool he)
theorem cov_bytes {P : Program} {t e : TypeId} (ht : P.underlying t = some (.slice e)) (he : P.underlying e = some (.int .u8)) (hc : P.cellsOf e = 1) : ∀ n, Covers P n t fun xs => ∃ ads : List (UInt8), xs = [.list (ads.map byteV)] ∧ (∀ a ∈ ads, True) ∧ ads.length ≤ maxLen := cov_list byteV hd1 (fun _ => rfl) ht hc (by decide) (cov_u8 he)

/-- A list ads a statement's argument. -/
theorem arg_struct {P : Program} {t : TypeId} {α : Type} {f : α → V} {F : α → Prop} (hc : ∀ n, Covers P n t fun xs => ∃ a : α, xs = (f a).cells ∧ F a) (hf : ∀ a, f a = .agg (f a).cells)
    {H : Type} {enc : TypeId × Value → H} {W : World} {sp : Nat → Bool} {held : Bool} {v : Value} {d : DataW H} {ps : List MemPlace} (h : DataW.Trod enc P W 0 sp held t v d ps) (hv : ∃ cs, v = .agg cs) : ∃ a, F a ∧ RepV (memC W) v (f a) := by
  obtain ⟨xs, ⟨a, rfl, ha⟩, hr⟩ := covers_argn hc h hv
  exact ⟨a, ha, by rw [hf a]; exact hr⟩

theorem arg_list {P : Program} {t : TypeId} {α : Type} {f : α → V} {F : α → Prop} (hc : ∀ n, Covers P n t fun xs => ∃ ads : List α, xs = [.list (ads.map f)] ∧ (∀ a ∈ ads, F a) ∧ ads.length ≤ maxLen)
    {H : Type} {enc : TypeId × Value → H} {W : World} {sp : Nat → Bool} {held : Bool} {v : Value} {d : DataW H} {ps : List MemPlace} (h : DataW.Trod enc P W 0 sp held t v d ps) (hv : ∀ cs, v ≠ .agg cs) :
    ∃ ads : List α, ((∀ a ∈ ads, F a) ∧ ads.length ≤ maxLen) ∧ RepV (memC W) v (.list (ads.map f)) := by
  obtain ⟨xs, ⟨ads, rfl, h1, h2⟩, h3⟩ := covers_arg1 hc h hv
  exact ⟨ads, ⟨h1, h2⟩, h3 _ rfl⟩

end Go.Proofs.Ytipacoopapjdpaa

/- Texts that are cut off anywhere, read one by one: plain Lean. -/
namespace Go.Proofs.Ytipacoopapjdpaa
set_option linter.unusedVariables false
set_option linter.unusedSimpArgs false
open Go Go.RowKit SL

theorem decN_cut : ∀ (n i j : Nat), j < (encNum n).length → decN i ((encNum n).take j) = none := by
  intro n
  induction n using Nat.strongRecOn with
  | _ n ih =>
    intro i j hj
    cases j with
    | zero => simp [decN]
    | succ j =>
      by_cases h : n < 128
      · rw [encNum_lt h] at hj; simp at hj
      · rw [encNum_ge (by omega)] at hj ⊢
        rw [List.take_succ_cons]
        have hx : (UInt8.ofNat (n % 128 + 128)).toNat = n % 128 + 128 := by simp; omega
        have h2 := ih (n / 128) (by omega) (i + 1) j (by simpa using hj)
        simp only [decN, hx, h2]
        split
        · rfl
        · rw [if_neg (by omega)]

theorem decT_cut {s : List UInt8} {j : Nat} (hs : s.length < 18446744073709551616) (hj : j < (encText s).length) : decT ((encText s).take j) = none := by
  unfold decT
  unfold encText at hj ⊢
  rw [List.length_append] at hj
  by_cases h : j < (encNum s.length).length
  · rw [List.take_append_of_le_length (by omega), decN_cut _ _ _ h]
  · rw [List.take_append, List.take_of_length_le (by omega), decN_enc hs]
    simp only [List.length_take]
    rw [if_neg (by omega)]

def cutE (ss : List (List UInt8)) (i : Nat) : Nat := ((ss.take i).flatMap encText).length
def endsOf (ss : List (List UInt8)) (k : Nat) : List Int := (List.range k).map fun i => ((cutE ss (i + 1) : Nat) : Int)

theorem endsOf_succ (ss : List (List UInt8)) (k : Nat) : endsOf ss (k + 1) = endsOf ss k ++ [((cutE ss (k + 1) : Nat) : Int)] := by
  unfold endsOf; rw [List.range_succ, List.map_append]; rfl

theorem endsOf_len (ss : List (List UInt8)) (k : Nat) : (endsOf ss k).length = k := by simp [endsOf]

theorem ends_get {ss : List (List UInt8)} {i n : Nat} (h : i < n) : ((endsOf ss n).map i64V)[((i : Nat) : Int).toNat]? = some (i64V (cutE ss (i + 1) : Nat)) := by
  have : ((i : Nat) : Int).toNat = i := by omega
  rw [this, List.getElem?_map]
  unfold endsOf
  rw [List.getElem?_map, List.getElem?_range h]; rfl

theorem cutE_succ {ss : List (List UInt8)} {i : Nat} (h : i < ss.length) : cutE ss (i + 1) = cutE ss i + (encText ss[i]).length := by
  unfold cutE
  rw [take_snoc h, List.flatMap_append, List.length_append]; simp

theorem cutE_all (ss : List (List UInt8)) : cutE ss ss.length = (ss.flatMap encText).length := by
  unfold cutE; rw [List.take_length]

def stCut (ss : List (List UInt8)) (k i : Nat) : Option (List UInt8) := if cutE ss i ≤ k then some (((ss.flatMap encText).take k).drop (cutE ss i)) else none

theorem stCut_zero (ss : List (List UInt8)) (k : Nat) : stCut ss k 0 = some ((ss.flatMap encText).take k) := by
  unfold stCut cutE; simp

theorem stCut_end {ss : List (List UInt8)} {k : Nat} (h : k < (ss.flatMap encText).length) : stCut ss k ss.length = none := by
  unfold stCut; rw [cutE_all, if_neg (by omega)]

theorem cut_step {ss : List (List UInt8)} {k i : Nat} (h : i < ss.length) (hs : ss[i].length < 18446744073709551616) :
    rdOf decT ([] : List UInt8) (stCut ss k i) = (if cutE ss (i + 1) ≤ k then ss[i] else [], stCut ss k (i + 1)) := by
  have hfull : ss.flatMap encText = (ss.take i).flatMap encText ++ (encText ss[i] ++ (ss.drop (i + 1)).flatMap encText) := by
    rw [show ss.flatMap encText = (ss.take i ++ ss.drop i).flatMap encText by rw [List.take_append_drop], List.flatMap_append, List.drop_eq_getElem_cons h, List.flatMap_cons]
  have hE := cutE_succ h
  unfold stCut
  by_cases h1 : cutE ss i ≤ k
  · rw [if_pos h1]
    have hd : ∀ e, cutE ss i ≤ e → ((ss.flatMap encText).take k).drop e = ((encText ss[i] ++ (ss.drop (i + 1)).flatMap encText).take (k - cutE ss i)).drop (e - cutE ss i) := fun e he => by
      rw [hfull, List.drop_take, List.drop_take, List.drop_append, List.drop_of_length_le (show (((ss.take i).flatMap encText).length ≤ e) from he), List.nil_append,
        show e - ((ss.take i).flatMap encText).length = e - cutE ss i from rfl, show k - e = k - cutE ss i - (e - cutE ss i) by omega]
    rw [hd _ (Nat.le_refl _), Nat.sub_self, List.drop_zero]
    by_cases h2 : cutE ss (i + 1) ≤ k
    · rw [if_pos h2, if_pos h2, hd _ (by omega)]
      have e1 : (encText ss[i] ++ (ss.drop (i + 1)).flatMap encText).take (k - cutE ss i) = encText ss[i] ++ ((ss.drop (i + 1)).flatMap encText).take (k - cutE ss i - (encText ss[i]).length) := by
        rw [List.take_append, List.take_of_length_le (by omega)]
      rw [e1, rdOf_good (decT_enc hs _)]
      have e2 : cutE ss (i + 1) - cutE ss i = (encText ss[i]).length := by omega
      rw [e2, List.drop_left]
    · rw [if_neg h2, if_neg h2]
      have e1 : (encText ss[i] ++ (ss.drop (i + 1)).flatMap encText).take (k - cutE ss i) = (encText ss[i]).take (k - cutE ss i) := by
        rw [List.take_append_of_le_length (by omega)]
      rw [e1, rdOf_bad (decT_cut hs (by omega))]
  · rw [if_neg h1, if_neg (by omega), if_neg (by omega)]
    rfl

theorem encText_pos (s : List UInt8) : 0 < (encText s).length := by
  have := encNum_pos s.length
  unfold encText; rw [List.length_append]; omega

theorem full_pos {ss : List (List UInt8)} (h : 0 < ss.length) : 0 < (ss.flatMap encText).length := by
  cases ss with
  | nil => simp at h
  | cons s ss =>
    have := encText_pos s
    simp only [List.flatMap_cons, List.length_append]; omega

theorem place_neg {a n : Int} (hn : 0 < n) (h : a.tmod n < 0) : a.tmod n + n = a % n := by
  have h1 : a.tmod n + n * a.tdiv n = a := Int.tmod_add_mul_tdiv a n
  have h2 : -n < a.tmod n := by
    have h3 : a.tmod n = -((-a).tmod n) := by rw [Int.neg_tmod, Int.neg_neg]
    have h4 := Int.tmod_lt_of_pos (-a) hn
    omega
  have h5 : a % n = (a.tmod n + n) % n := by
    rw [Int.add_emod_right]
    conv => lhs; rw [← h1]
    rw [Int.add_mul_emod_self_left]
  rw [h5, Int.emod_eq_of_lt (by omega) (by omega)]

theorem place_pos {a n : Int} (hn : 0 < n) (h : ¬ a.tmod n < 0) : a.tmod n = a % n := by
  by_cases ha : a < 0
  · have h2 : a.tmod n = -((-a).tmod n) := by rw [Int.neg_tmod, Int.neg_neg]
    have h3 : (-a).tmod n = (-a) % n := Int.tmod_eq_emod_of_nonneg (by omega)
    have h4 := Int.emod_nonneg (-a) (show n ≠ 0 by omega)
    rw [h2, h3] at h
    have h5 : (-a) % n = 0 := by omega
    rw [h2, h3, h5]
    have : n ∣ -a := Int.dvd_of_emod_eq_zero h5
    have : n ∣ a := Int.dvd_neg.mp this
    rw [Int.emod_eq_zero_of_dvd this]; rfl
  · exact Int.tmod_eq_emod_of_nonneg (by omega)

end Go.Proofs.Ytipacoopapjdpaa

/- Intervals, alarms, names, summaries and parts as data and as bytes: plain Lean. -/
namespace Go.Proofs.Ytipacoopapjdpaa
set_option linter.unusedVariables false
set_option linter.unusedSimpArgs false
open Go Go.RowKit SL

structure Ivl where
  some : Bool
  lo : Int
  hi : Int
structure Alm where
  pos : Int
  kind : Int
structure Nmd where
  name : List UInt8
  v : Ivl
structure Smy where
  alarms : List Alm
  ends : Bool
  ret : Ivl
  mod : List Nmd
structure Prt where
  what : UInt8
  n : Nat
  t : List UInt8
  s : Smy

def ivlV (v : Ivl) : V := .agg [.bool v.some, .int .i64 v.lo, .int .i64 v.hi]
def almV (a : Alm) : V := .agg [.int .i64 a.pos, .int .i64 a.kind]
def nmdV (m : Nmd) : V := .agg [.str m.name, .bool m.v.some, .int .i64 m.v.lo, .int .i64 m.v.hi]
def smyV (s : Smy) : V := .agg [.list (s.alarms.map almV), .bool s.ends, .bool s.ret.some, .int .i64 s.ret.lo, .int .i64 s.ret.hi, .list (s.mod.map nmdV)]
def prtV (p : Prt) : V := .agg [.int .u8 p.what.toNat, .int .u64 p.n, .str p.t, .list (p.s.alarms.map almV), .bool p.s.ends, .bool p.s.ret.some, .int .i64 p.s.ret.lo, .int .i64 p.s.ret.hi, .list (p.s.mod.map nmdV)]

def smyCells (s : Smy) : List V := [.list (s.alarms.map almV), .bool s.ends, .bool s.ret.some, .int .i64 s.ret.lo, .int .i64 s.ret.hi, .list (s.mod.map nmdV)]

theorem len_u64m {α : Type} (f : α → V) {r : List α} (h : r.length ≤ 100000000) : D.val (.int .u64 (IntKind.u64.wrap ((r.map f).length : Int))) = .val (u64V r.length) := by
  rw [List.length_map, wrapped_u64 _ (by omega)]; rfl

def IvlOk (v : Ivl) : Prop := isI64 v.lo ∧ isI64 v.hi
def AlmOk (a : Alm) : Prop := isI64 a.pos ∧ isI64 a.kind
def SmyOk (s : Smy) : Prop := (∀ a ∈ s.alarms, AlmOk a) ∧ IvlOk s.ret ∧ ∀ m ∈ s.mod, IvlOk m.v
def PrtOk (p : Prt) : Prop := p.n < 18446744073709551616 ∧ SmyOk p.s

/-- Small enough that the laws look at it. -/
def SmyLight (s : Smy) : Prop := s.alarms.length ≤ 10 ∧ s.mod.length ≤ 10 ∧ ∀ m ∈ s.mod, m.name.length ≤ 50
def PrtLight (p : Prt) : Prop := p.t.length ≤ 100 ∧ SmyLight p.s

def encIval (v : Ivl) : List UInt8 := encBool v.some ++ if v.some then encInt v.lo ++ encInt v.hi else []
def encAlarm (a : Alm) : List UInt8 := encInt a.pos ++ encInt a.kind
def encNamed (m : Nmd) : List UInt8 := encText m.name ++ encIval m.v
def encAlarms (l : List Alm) : List UInt8 := encNum l.length ++ l.flatMap encAlarm
def encSumm (s : Smy) : List UInt8 := encAlarms s.alarms ++ encBool s.ends ++ encIval s.ret ++ encNum s.mod.length ++ s.mod.flatMap encNamed
def encPart (p : Prt) : List UInt8 :=
  if p.what.toNat % 5 = 0 then encNum p.n else if p.what.toNat % 5 = 1 then encInt (IntKind.i64.wrap p.n) else if p.what.toNat % 5 = 2 then encText p.t
  else if p.what.toNat % 5 = 3 then encBool (p.n % 2 == 1) else encSumm p.s

theorem encInt_len {n : Int} (h : isI64 n) : (encInt n).length ≤ 10 := encNum_len (zig_lt h)

theorem encBool_len1 (b : Bool) : (encBool b).length = 1 := by
  rw [encBool_eq]; rfl

theorem encIval_len {v : Ivl} (h : IvlOk v) : (encIval v).length ≤ 21 := by
  have h1 := encInt_len h.1
  have h2 := encInt_len h.2
  unfold encIval
  rw [List.length_append, encBool_len1]
  split
  · rw [List.length_append]; omega
  · simp

theorem encAlarm_len {a : Alm} (h : AlmOk a) : (encAlarm a).length ≤ 20 := by
  have h1 := encInt_len h.1
  have h2 := encInt_len h.2
  unfold encAlarm
  rw [List.length_append]; omega

theorem encText_lenc {s : List UInt8} {c : Nat} (h : s.length ≤ c) (hc : c ≤ 100000000) : (encText s).length ≤ 10 + c := by
  have := encNum_len (n := s.length) (by omega)
  unfold encText; rw [List.length_append]; omega

theorem encNamed_len {m : Nmd} (h : IvlOk m.v) (hl : m.name.length ≤ 50) : (encNamed m).length ≤ 81 := by
  have h1 := encIval_len h
  have h2 := encText_lenc hl (by decide)
  unfold encNamed
  rw [List.length_append]; omega

theorem flat_allc {α : Type} {f : α → List UInt8} {c : Nat} {ns : List α} (h : ∀ n ∈ ns, (f n).length ≤ c) : (ns.flatMap f).length ≤ c * ns.length := by
  have := flat_len h ns.length
  rwa [List.take_length] at this

theorem encSumm_len {s : Smy} (h : SmyOk s) (hl : SmyLight s) : (encSumm s).length ≤ 1100 := by
  have h1 := flat_allc (f := encAlarm) (c := 20) (ns := s.alarms) fun a ha => encAlarm_len (h.1 a ha)
  have h2 := flat_allc (f := encNamed) (c := 81) (ns := s.mod) fun m hm => encNamed_len (h.2.2 m hm) (hl.2.2 m hm)
  have h3 := encIval_len h.2.1
  have h4 := encNum_len (n := s.alarms.length) (by have := hl.1; omega)
  have h5 := encNum_len (n := s.mod.length) (by have := hl.2.1; omega)
  have h6 := hl.1
  have h7 := hl.2.1
  unfold encSumm encAlarms
  simp only [List.length_append, encBool_len1]; omega

theorem wrap_i64_ok (n : Int) : isI64 (IntKind.i64.wrap n) := by
  unfold isI64 IntKind.wrap
  have e1 : (2 : Int) ^ IntKind.i64.bits = 18446744073709551616 := by decide
  have e2 : (2 : Int) ^ (IntKind.i64.bits - 1) = 9223372036854775808 := by decide
  rw [e1, e2]
  by_cases h : n % 18446744073709551616 ≥ 9223372036854775808
  · have : (IntKind.i64.signed && decide (n % 18446744073709551616 ≥ 9223372036854775808)) = true := by simp [IntKind.signed]; omega
    simp only [this, if_true]; omega
  · have : (IntKind.i64.signed && decide (n % 18446744073709551616 ≥ 9223372036854775808)) = false := by simp [IntKind.signed]; omega
    simp only [this, Bool.false_eq_true, if_false]; omega

theorem encPart_len {p : Prt} (h : PrtOk p) (hl : PrtLight p) : (encPart p).length ≤ 1100 := by
  unfold encPart
  have h1 := encNum_len h.1
  have h2 := encInt_len (wrap_i64_ok p.n)
  have h3 := encText_lenc hl.1 (by decide)
  have h4 := encSumm_len h.2 hl.2
  have h5 := encBool_len1 (p.n % 2 == 1)
  split
  · omega
  · split
    · omega
    · split
      · omega
      · split <;> omega

theorem rem5 (w : UInt8) : D.val (.int .u8 ((w.toNat : Int).tmod 5)) = .val (.int .u8 ((w.toNat % 5 : Nat) : Int)) := by
  rw [Int.tmod_eq_emod_of_nonneg (by omega)]; rfl

theorem odd_bool (n : Nat) : D.val (.bool ((n : Int).tmod 2 == 1)) = .val (boolV (n % 2 == 1)) := by
  rw [Int.tmod_eq_emod_of_nonneg (by omega)]
  unfold boolV
  have e : ((n : Int) % 2 == 1) = (n % 2 == 1) := by
    by_cases h : n % 2 = 1
    · have h1 : (n : Int) % 2 = 1 := by omega
      rw [h, h1]; rfl
    · have h1 : ¬ (n : Int) % 2 = 1 := by omega
      rw [beq_eq_false_iff_ne.mpr h, beq_eq_false_iff_ne.mpr h1]
  rw [e]

theorem eq5 {a b : Nat} (h : (((a : Nat) : Int) == ((b : Nat) : Int)) = true) : a = b := by
  have := eq_of_beq h; omega
theorem ne5 {a b : Nat} (h : (((a : Nat) : Int) == ((b : Nat) : Int)) = false) : a ≠ b := by
  have := beq_eq_false_iff_ne.mp h; omega

theorem encPart0 {p : Prt} (h : p.what.toNat % 5 = 0) : encPart p = encNum p.n := by unfold encPart; rw [if_pos h]
theorem encPart1 {p : Prt} (h : p.what.toNat % 5 = 1) : encPart p = encInt (IntKind.i64.wrap p.n) := by unfold encPart; rw [if_neg (by omega), if_pos h]
theorem encPart2 {p : Prt} (h : p.what.toNat % 5 = 2) : encPart p = encText p.t := by unfold encPart; rw [if_neg (by omega), if_neg (by omega), if_pos h]
theorem encPart3 {p : Prt} (h : p.what.toNat % 5 = 3) : encPart p = encBool (p.n % 2 == 1) := by unfold encPart; rw [if_neg (by omega), if_neg (by omega), if_neg (by omega), if_pos h]
theorem encPart4 {p : Prt} (h0 : p.what.toNat % 5 ≠ 0) (h1 : p.what.toNat % 5 ≠ 1) (h2 : p.what.toNat % 5 ≠ 2) (h3 : p.what.toNat % 5 ≠ 3) : encPart p = encSumm p.s := by
  unfold encPart; rw [if_neg h0, if_neg h1, if_neg h2, if_neg h3]

def prtCells (p : Prt) : List V := [.int .u8 p.what.toNat, .int .u64 p.n, .str p.t, .list (p.s.alarms.map almV), .bool p.s.ends, .bool p.s.ret.some, .int .i64 p.s.ret.lo, .int .i64 p.s.ret.hi, .list (p.s.mod.map nmdV)]

end Go.Proofs.Ytipacoopapjdpaa

/- How the document's reader goes over a number's bytes: plain Lean. -/
namespace Go.Proofs.Ytipacoopapjdpaa
set_option linter.unusedVariables false
set_option linter.unusedSimpArgs false
open Go Go.RowKit SL

def NumGoes (l : List UInt8) (i : Nat) : Prop := i < l.length ∧ (i < 9 ∨ i = 9 ∧ (l.getD i 0).toNat ≤ 1)
instance (l : List UInt8) (i : Nat) : Decidable (NumGoes l i) := inferInstanceAs (Decidable (_ ∧ _))
def numStop (l : List UInt8) (i : Nat) : Bool := !(decide (NumGoes l i))

theorem numStop_t {l : List UInt8} {i : Nat} {b : Bool} (hb : b = true) (h : ¬ NumGoes l i) : D.val (.bool b) = .val (.bool (numStop l i)) := by
  subst hb; unfold numStop; rw [decide_eq_false h]; rfl
theorem numStop_f {l : List UInt8} {i : Nat} {b : Bool} (hb : b = false) (h : NumGoes l i) : D.val (.bool b) = .val (.bool (numStop l i)) := by
  subst hb; unfold numStop; rw [decide_eq_true h]; rfl
theorem numStop_iff {l : List UInt8} {i : Nat} : (numStop l i = true ↔ ¬ NumGoes l i) ∧ (numStop l i = false ↔ NumGoes l i) := by
  unfold numStop
  constructor <;> simp

theorem drop_at {l : List UInt8} {i : Nat} (h : i < l.length) : l.drop i = l[i] :: l.drop (i + 1) := List.drop_eq_getElem_cons h
theorem getD_at {l : List UInt8} {i : Nat} (h : i < l.length) : l.getD i 0 = l[i] := by
  rw [List.getD_eq_getElem?_getD, List.getElem?_eq_getElem h]; rfl

theorem decN_stop {l : List UInt8} {i : Nat} (hi : i ≤ 10) (h : ¬ NumGoes l i) : decN i (l.drop i) = none := by
  by_cases h1 : i < l.length
  · rw [drop_at h1]
    unfold NumGoes at h
    rw [getD_at h1] at h
    simp only [decN]
    rw [if_pos (by omega)]
  · rw [List.drop_of_length_le (by omega)]; rfl

theorem goes_lt {l : List UInt8} {i : Nat} (h : NumGoes l i) : ∃ h1 : i < l.length, i < 9 ∨ i = 9 ∧ l[i].toNat ≤ 1 := by
  obtain ⟨h1, h2⟩ := h
  rw [getD_at h1] at h2
  exact ⟨h1, h2⟩

theorem and_low : ∀ y : Fin 256, (BitVec.ofInt 8 (y.val : Int) &&& BitVec.ofInt 8 127).toNat = y.val % 128 := by
  set_option maxRecDepth 8000 in decide

theorem low_byte (x : UInt8) : D.val (.int .u8 (IntKind.u8.wrap ((BitVec.ofInt IntKind.u8.bits (x.toNat : Int) &&& BitVec.ofInt IntKind.u8.bits 127).toNat : Int))) = .val (.int .u8 ((x.toNat % 128 : Nat) : Int)) := by
  have h := and_low ⟨x.toNat, x.toNat_lt⟩
  simp only at h
  show D.val (.int .u8 (IntKind.u8.wrap ((BitVec.ofInt 8 (x.toNat : Int) &&& BitVec.ofInt 8 127).toNat : Int))) = _
  rw [h, wrap_u8 (by omega) (by omega)]

end Go.Proofs.Ytipacoopapjdpaa

/- Numbers of 32 bits, intervals, alarms and summaries, read: plain Lean. -/
namespace Go.Proofs.Ytipacoopapjdpaa
set_option linter.unusedVariables false
set_option linter.unusedSimpArgs false
open Go Go.RowKit SL

def isI32 (n : Int) : Prop := -2147483648 ≤ n ∧ n ≤ 2147483647
instance (n : Int) : Decidable (isI32 n) := inferInstanceAs (Decidable (_ ∧ _))

def bindR {α β : Type} (x : Option (α × List UInt8)) (f : α → List UInt8 → Option (β × List UInt8)) : Option (β × List UInt8) :=
  match x with
  | none => none
  | some (a, r) => f a r

/-- A number of 32 bits, read. -/
def decS (l : List UInt8) : Option (Int × List UInt8) := bindR (decI l) fun n r => if isI32 n then some (n, r) else none

/-- How many there are, read. -/
def decC (l : List UInt8) : Option (Nat × List UInt8) := bindR (decN 0 l) fun n r => if n ≤ r.length then some (n, r) else none

def noIval : Ivl := ⟨false, 0, 0⟩

/-- An interval, read. -/
def decV (l : List UInt8) : Option (Ivl × List UInt8) := bindR (decB l) fun b r =>
  if b then bindR (decI r) fun lo r => bindR (decI r) fun hi r => some (⟨true, lo, hi⟩, r) else some (noIval, r)

def decA (l : List UInt8) : Option (Alm × List UInt8) := bindR (decS l) fun a r => bindR (decS r) fun k r => some (⟨a, k⟩, r)
def decM (l : List UInt8) : Option (Nmd × List UInt8) := bindR (decT l) fun t r => bindR (decV r) fun v r => some (⟨t, v⟩, r)

/-- So many, read one by one. -/
def decMany {α : Type} (dec : List UInt8 → Option (α × List UInt8)) : Nat → List UInt8 → Option (List α × List UInt8)
  | 0, l => some ([], l)
  | n + 1, l => bindR (decMany dec n l) fun xs r => bindR (dec r) fun x r => some (xs ++ [x], r)

theorem decS_len {l : List UInt8} {v : Int} {r : List UInt8} (h : decS l = some (v, r)) : r.length ≤ l.length ∧ isI32 v ∧ decI l = some (v, r) := by
  unfold decS bindR at h
  cases e : decI l with
  | none => rw [e] at h; cases h
  | some p =>
    rw [e] at h
    simp only at h
    split at h
    · rename_i h1
      simp only [Option.some.injEq, Prod.mk.injEq] at h
      obtain ⟨rfl, rfl⟩ := h
      exact ⟨decI_len (v := p.1) (by rw [e]), h1, rfl⟩
    · cases h

/-- A reading that left the reader so. -/
def Out {α : Type} (dec : List UInt8 → Option (α × List UInt8)) (st : Option (List UInt8)) (x : α) (st' : Option (List UInt8)) : Prop := st.bind dec = st'.map fun r => (x, r)

theorem out_rdOf {α : Type} {dec : List UInt8 → Option (α × List UInt8)} {z : α} (st : Option (List UInt8)) : Out dec st (rdOf dec z st).1 (rdOf dec z st).2 := by
  unfold Out
  cases st with
  | none => rfl
  | some l =>
    cases e : dec l with
    | none => rw [rdOf_bad e]; simp [e]
    | some p => rw [rdOf_good (v := p.1) (r := p.2) (by rw [e])]; simp [e]

theorem ival_true {st st1 st2 st3 : Option (List UInt8)} {lo hi : Int} (h1 : Out decB st true st1) (h2 : Out decI st1 lo st2) (h3 : Out decI st2 hi st3) : Out decV st ⟨true, lo, hi⟩ st3 := by
  unfold Out at *
  cases st with
  | none =>
    cases st1 with
    | none => cases st2 with
      | none => cases st3 with
        | none => rfl
        | some r => cases h3
      | some r => cases h2
    | some r => cases h1
  | some l =>
    simp only [Option.bind_some] at h1 ⊢
    unfold decV bindR
    cases st1 with
    | none =>
      rw [h1]
      cases st2 with
      | none => cases st3 with
        | none => rfl
        | some r => cases h3
      | some r => cases h2
    | some r1 =>
      rw [h1]
      simp only [Option.bind_some, Option.map_some] at h2 ⊢
      rw [h2]
      cases st2 with
      | none => cases st3 with
        | none => rfl
        | some r => cases h3
      | some r2 =>
        simp only [Option.bind_some, Option.map_some] at h3 ⊢
        rw [h3]
        cases st3 with
        | none => rfl
        | some r => rfl

theorem ival_false {st st1 : Option (List UInt8)} (h1 : Out decB st false st1) : Out decV st noIval st1 := by
  unfold Out at *
  cases st with
  | none => cases st1 with
    | none => rfl
    | some r => cases h1
  | some l =>
    simp only [Option.bind_some] at h1 ⊢
    unfold decV bindR
    rw [h1]
    cases st1 with
    | none => rfl
    | some r => rfl

/-- Alarms, read. -/
def decAl (l : List UInt8) : Option (List Alm × List UInt8) := bindR (decC l) fun n r => decMany decA n r

/-- Names with intervals, read. -/
def decMl (l : List UInt8) : Option (List Nmd × List UInt8) := bindR (decC l) fun n r => decMany decM n r

/-- A summary, read. -/
def decSumm (l : List UInt8) : Option (Smy × List UInt8) :=
  bindR (decAl l) fun al r => bindR (decB r) fun e r => bindR (decV r) fun v r => bindR (decMl r) fun ml r => some (⟨al, e, v, ml⟩, r)

def noSumm : Smy := ⟨[], false, noIval, []⟩

theorem Out.bind {α β : Type} {d1 : List UInt8 → Option (α × List UInt8)} {d2 : α → List UInt8 → Option (β × List UInt8)} {st st1 st2 : Option (List UInt8)} {a : α} {b : β}
    (h1 : Out d1 st a st1) (h2 : Out (d2 a) st1 b st2) : Out (fun l => bindR (d1 l) d2) st b st2 := by
  unfold Out at *
  cases st with
  | none =>
    cases st1 with
    | none => cases st2 with
      | none => rfl
      | some r => cases h2
    | some r => cases h1
  | some l =>
    simp only [Option.bind_some] at h1 ⊢
    rw [h1]
    cases st1 with
    | none => cases st2 with
      | none => rfl
      | some r => cases h2
    | some r1 => exact h2

theorem Out.done {α : Type} (x : α) (st : Option (List UInt8)) : Out (fun r => some (x, r)) st x st := by
  unfold Out
  cases st with
  | none => rfl
  | some r => rfl

theorem out_summ {st st1 st2 st3 st4 : Option (List UInt8)} {al : List Alm} {e : Bool} {v : Ivl} {ml : List Nmd} (h1 : Out decAl st al st1) (h2 : Out decB st1 e st2) (h3 : Out decV st2 v st3) (h4 : Out decMl st3 ml st4) :
    Out decSumm st ⟨al, e, v, ml⟩ st4 :=
  Out.bind h1 (Out.bind (d2 := fun e r => bindR (decV r) fun v r => bindR (decMl r) fun ml r => some ((⟨al, e, v, ml⟩ : Smy), r)) h2
    (Out.bind (d2 := fun v r => bindR (decMl r) fun ml r => some ((⟨al, e, v, ml⟩ : Smy), r)) h3 (Out.bind (d2 := fun ml r => some ((⟨al, e, v, ml⟩ : Smy), r)) h4 (Out.done _ _))))

theorem out_nmd {st st1 st2 : Option (List UInt8)} {t : List UInt8} {v : Ivl} (h1 : Out decT st t st1) (h2 : Out decV st1 v st2) : Out decM st ⟨t, v⟩ st2 :=
  Out.bind h1 (Out.bind (d2 := fun v r => some ((⟨t, v⟩ : Nmd), r)) h2 (Out.done _ _))

theorem ml_none {st : Option (List UInt8)} {n : Nat} (h : Out (decN 0) st n none) : Out decMl st [] none := by
  unfold Out at *
  cases st with
  | none => rfl
  | some l =>
    simp only [Option.bind_some, Option.map_none] at h ⊢
    unfold decMl decC bindR; rw [h]

theorem ml_great {st : Option (List UInt8)} {n : Nat} {r : List UInt8} (h : Out (decN 0) st n (some r)) (hn : ¬ n ≤ r.length) : Out decMl st [] none := by
  unfold Out at *
  cases st with
  | none => rfl
  | some l =>
    simp only [Option.bind_some, Option.map_some, Option.map_none] at h ⊢
    unfold decMl decC bindR; rw [h]; simp only; rw [if_neg hn]

theorem ml_some {st : Option (List UInt8)} {n : Nat} {r : List UInt8} (h : Out (decN 0) st n (some r)) (hn : n ≤ r.length) {ml : List Nmd} {st' : Option (List UInt8)} (h2 : Out (decMany decM n) (some r) ml st') : Out decMl st ml st' := by
  unfold Out at *
  cases st with
  | none => cases h
  | some l =>
    simp only [Option.bind_some, Option.map_some] at h h2 ⊢
    unfold decMl decC bindR; rw [h]; simp only; rw [if_pos hn]; exact h2

theorem out_none {α : Type} {dec : List UInt8 → Option (α × List UInt8)} {st : Option (List UInt8)} {x y : α} (h : Out dec st x none) : Out dec st y none := h

theorem al_none {st : Option (List UInt8)} {n : Nat} (h : Out (decN 0) st n none) : Out decAl st [] none := by
  unfold Out at *
  cases st with
  | none => rfl
  | some l =>
    simp only [Option.bind_some, Option.map_none] at h ⊢
    unfold decAl decC bindR; rw [h]

theorem al_great {st : Option (List UInt8)} {n : Nat} {r : List UInt8} (h : Out (decN 0) st n (some r)) (hn : ¬ n ≤ r.length) : Out decAl st [] none := by
  unfold Out at *
  cases st with
  | none => rfl
  | some l =>
    simp only [Option.bind_some, Option.map_some, Option.map_none] at h ⊢
    unfold decAl decC bindR; rw [h]; simp only; rw [if_neg hn]

theorem al_some {st : Option (List UInt8)} {n : Nat} {r : List UInt8} (h : Out (decN 0) st n (some r)) (hn : n ≤ r.length) {al : List Alm} {st' : Option (List UInt8)} (h2 : Out (decMany decA n) (some r) al st') : Out decAl st al st' := by
  unfold Out at *
  cases st with
  | none => cases h
  | some l =>
    simp only [Option.bind_some, Option.map_some] at h h2 ⊢
    unfold decAl decC bindR; rw [h]; simp only; rw [if_pos hn]; exact h2

theorem many_zero {α : Type} {dec : List UInt8 → Option (α × List UInt8)} (r : List UInt8) : Out (decMany dec 0) (some r) [] (some r) := rfl

/-- One more of them. -/
theorem many_succ {α : Type} {dec : List UInt8 → Option (α × List UInt8)} {r : List UInt8} {j : Nat} {xs : List α} {r1 : List UInt8} {x : α} {st2 : Option (List UInt8)}
    (h : Out (decMany dec j) (some r) xs (some r1)) (h2 : Out dec (some r1) x st2) : Out (decMany dec (j + 1)) (some r) (xs ++ [x]) st2 := by
  unfold Out at *
  simp only [Option.bind_some, Option.map_some] at h h2 ⊢
  unfold decMany bindR; rw [h]; simp only; rw [h2]
  cases st2 with
  | none => rfl
  | some r => rfl

/-- Once it has failed it stays so. -/
theorem many_fail {α : Type} {dec : List UInt8 → Option (α × List UInt8)} {r : List UInt8} {j : Nat} {xs ys : List α} (h : Out (decMany dec j) (some r) xs none) : ∀ n, j ≤ n → Out (decMany dec n) (some r) ys none := by
  intro n hn
  induction hn with
  | refl => exact h
  | step _ ih =>
    unfold Out at *
    simp only [Option.bind_some, Option.map_none] at ih ⊢
    unfold decMany bindR; rw [ih]

theorem out_alm {st st1 st2 : Option (List UInt8)} {a k : Int} (h1 : Out decS st a st1) (h2 : Out decS st1 k st2) : Out decA st ⟨a, k⟩ st2 := by
  unfold Out at *
  cases st with
  | none =>
    cases st1 with
    | none => cases st2 with
      | none => rfl
      | some r => cases h2
    | some r => cases h1
  | some l =>
    simp only [Option.bind_some] at h1 ⊢
    unfold decA bindR
    rw [h1]
    cases st1 with
    | none => cases st2 with
      | none => rfl
      | some r => cases h2
    | some r1 =>
      simp only [Option.bind_some, Option.map_some] at h2 ⊢
      rw [h2]
      cases st2 with
      | none => rfl
      | some r => rfl

end Go.Proofs.Ytipacoopapjdpaa

/- When a summary can't be read: plain Lean. -/
namespace Go.Proofs.Ytipacoopapjdpaa
set_option linter.unusedVariables false
set_option linter.unusedSimpArgs false
open Go Go.RowKit SL

theorem decC_inv {l : List UInt8} {n : Nat} {r : List UInt8} (h : decC l = some (n, r)) : decN 0 l = some (n, r) ∧ n ≤ r.length ∧ r.length ≤ l.length := by
  unfold decC bindR at h
  cases e : decN 0 l with
  | none => rw [e] at h; cases h
  | some p =>
    rw [e] at h
    simp only at h
    split at h
    · rename_i h1
      simp only [Option.some.injEq, Prod.mk.injEq] at h
      obtain ⟨rfl, rfl⟩ := h
      exact ⟨rfl, h1, decN_len (v := p.1) (by rw [e])⟩
    · cases h

theorem sum_bad_al {l : List UInt8} (h : Out decAl (some l) [] none) : decSumm l = none := out_summ (e := false) (v := noIval) (ml := []) (st2 := none) (st3 := none) (st4 := none) h rfl rfl rfl
theorem sum_bad_e {l r1 : List UInt8} {al : List Alm} (h : Out decAl (some l) al (some r1)) (h2 : decB r1 = none) : decSumm l = none := out_summ (e := false) (v := noIval) (ml := []) (st2 := none) (st3 := none) (st4 := none) h h2 rfl rfl
theorem sum_bad_v {l r1 r2 : List UInt8} {al : List Alm} {e : Bool} (h : Out decAl (some l) al (some r1)) (h2 : decB r1 = some (e, r2)) (h3 : decV r2 = none) : decSumm l = none :=
  out_summ (v := noIval) (ml := []) (st2 := some r2) (st3 := none) (st4 := none) h h2 h3 rfl
theorem sum_bad_ml {l r1 r2 r3 : List UInt8} {al : List Alm} {e : Bool} {v : Ivl} (h : Out decAl (some l) al (some r1)) (h2 : decB r1 = some (e, r2)) (h3 : decV r2 = some (v, r3)) (h4 : Out decMl (some r3) [] none) : decSumm l = none :=
  out_summ (ml := []) (st2 := some r2) (st3 := some r3) (st4 := none) h h2 h3 h4

theorem al_bad {l : List UInt8} (h : decC l = none) : Out decAl (some l) [] none := by
  show decAl l = none
  unfold decAl bindR; rw [h]
theorem ml_bad {l : List UInt8} (h : decC l = none) : Out decMl (some l) [] none := by
  show decMl l = none
  unfold decMl bindR; rw [h]
theorem al_good {l r : List UInt8} {n : Nat} (h : decC l = some (n, r)) {al : List Alm} {st : Option (List UInt8)} (h2 : Out (decMany decA n) (some r) al st) : Out decAl (some l) al st :=
  al_some (st := some l) (decC_inv h).1 (decC_inv h).2.1 h2
theorem ml_good {l r : List UInt8} {n : Nat} (h : decC l = some (n, r)) {ml : List Nmd} {st : Option (List UInt8)} (h2 : Out (decMany decM n) (some r) ml st) : Out decMl (some l) ml st :=
  ml_some (st := some l) (decC_inv h).1 (decC_inv h).2.1 h2

/-- One of them can't be read. -/
theorem many_bad {α : Type} {dec : List UInt8 → Option (α × List UInt8)} {r : List UInt8} {j n : Nat} {xs : List α} {r1 : List UInt8} (h : Out (decMany dec j) (some r) xs (some r1)) (h2 : dec r1 = none) (hj : j < n) :
    Out (decMany dec n) (some r) [] none := by
  refine many_fail (xs := []) (j := j + 1) ?_ n hj
  unfold Out at *
  simp only [Option.bind_some, Option.map_some, Option.map_none] at h ⊢
  unfold decMany bindR; rw [h]; simp only; rw [h2]

theorem decA_bad1 {l : List UInt8} (h : decS l = none) : decA l = none := by unfold decA bindR; rw [h]
theorem decA_bad2 {l r : List UInt8} {a : Int} (h : decS l = some (a, r)) (h2 : decS r = none) : decA l = none := by unfold decA bindR; rw [h]; simp only; rw [h2]
theorem decM_bad1 {l : List UInt8} (h : decT l = none) : decM l = none := by unfold decM bindR; rw [h]
theorem decM_bad2 {l r : List UInt8} {t : List UInt8} (h : decT l = some (t, r)) (h2 : decV r = none) : decM l = none := by unfold decM bindR; rw [h]; simp only; rw [h2]

theorem decV_len {l : List UInt8} {v : Ivl} {r : List UInt8} (h : decV l = some (v, r)) : r.length ≤ l.length := by
  unfold decV bindR at h
  split at h
  · cases h
  · rename_i b r1 h1
    have l1 := decB_len h1
    simp only at h
    split at h
    · split at h
      · cases h
      · rename_i lo r2 h2
        have l2 := decI_len h2
        split at h
        · cases h
        · rename_i hi r3 h3
          have l3 := decI_len h3
          simp only [Option.some.injEq, Prod.mk.injEq] at h
          rw [← h.2]; omega
    · simp only [Option.some.injEq, Prod.mk.injEq] at h
      rw [← h.2]; omega

theorem bindR_len {α β : Type} {x : Option (α × List UInt8)} {f : α → List UInt8 → Option (β × List UInt8)} {l r : List UInt8} {b : β} (h : bindR x f = some (b, r)) (hx : ∀ a r1, x = some (a, r1) → r1.length ≤ l.length)
    (hf : ∀ a r1, x = some (a, r1) → ∀ b r2, f a r1 = some (b, r2) → r2.length ≤ r1.length) : r.length ≤ l.length := by
  unfold bindR at h
  cases x with
  | none => cases h
  | some p => exact Nat.le_trans (hf p.1 p.2 rfl b r h) (hx p.1 p.2 rfl)

theorem decA_len {l r : List UInt8} {a : Alm} (h : decA l = some (a, r)) : r.length ≤ l.length :=
  bindR_len h (fun a r1 h => (decS_len h).1) fun a r1 h b r2 h2 => bindR_len h2 (fun a r1 h => (decS_len h).1) fun a r1 h b r2 h2 => by
    simp only [Option.some.injEq, Prod.mk.injEq] at h2; rw [h2.2]; exact Nat.le_refl _

theorem decM_len {l r : List UInt8} {m : Nmd} (h : decM l = some (m, r)) : r.length ≤ l.length :=
  bindR_len h (fun a r1 h => decT_len h) fun a r1 h b r2 h2 => bindR_len h2 (fun a r1 h => decV_len h) fun a r1 h b r2 h2 => by
    simp only [Option.some.injEq, Prod.mk.injEq] at h2; rw [h2.2]; exact Nat.le_refl _

theorem decMany_len {α : Type} {dec : List UInt8 → Option (α × List UInt8)} (hd : ∀ l a r, dec l = some (a, r) → r.length ≤ l.length) : ∀ (n : Nat) (l : List UInt8) (xs : List α) (r : List UInt8), decMany dec n l = some (xs, r) → r.length ≤ l.length
  | 0, l, xs, r, h => by simp only [decMany, Option.some.injEq, Prod.mk.injEq] at h; rw [h.2]; exact Nat.le_refl _
  | n + 1, l, xs, r, h => bindR_len h (fun xs r1 h => decMany_len hd n l xs r1 h) fun a r1 h b r2 h2 => bindR_len h2 (fun a r h => hd _ _ _ h) fun a r1 h b r2 h2 => by
    simp only [Option.some.injEq, Prod.mk.injEq] at h2; rw [h2.2]; exact Nat.le_refl _

theorem decSumm_len {l r : List UInt8} {s : Smy} (h : decSumm l = some (s, r)) : r.length ≤ l.length :=
  bindR_len h (fun al r1 h => bindR_len h (fun n r h => (decC_inv h).2.2) fun n r1 _ b r2 h => decMany_len (fun _ _ _ h => decA_len h) n r1 b r2 h) fun al r1 _ b r2 h =>
    bindR_len h (fun e r h => decB_len h) fun e r1 _ b r2 h => bindR_len h (fun v r h => decV_len h) fun v r1 _ b r2 h =>
      bindR_len h (fun ml r1 h => bindR_len h (fun n r h => (decC_inv h).2.2) fun n r1 _ b r2 h => decMany_len (fun _ _ _ h => decM_len h) n r1 b r2 h) fun ml r1 _ b r2 h => by
        simp only [Option.some.injEq, Prod.mk.injEq] at h; rw [h.2]; exact Nat.le_refl _

/-- A reader that has failed told nothing. -/
theorem rdOf_none_z {α : Type} {dec : List UInt8 → Option (α × List UInt8)} {z : α} {st : Option (List UInt8)} (h : (rdOf dec z st).2 = none) : (rdOf dec z st).1 = z := by
  cases st with
  | none => rfl
  | some l =>
    cases e : dec l with
    | none => rw [rdOf_bad e]
    | some p => rw [rdOf_good (v := p.1) (r := p.2) (by rw [e])] at h; cases h

/-- What was read is what the one who reads tells. -/
theorem Out.rdOf {α : Type} {dec : List UInt8 → Option (α × List UInt8)} {z x : α} {st st' : Option (List UInt8)} (h : Out dec st x st') (h0 : st' = none → x = z) : (rdOf dec z st).1 = x ∧ (rdOf dec z st).2 = st' := by
  unfold Out at h
  cases st with
  | none =>
    cases st' with
    | none => exact ⟨(h0 rfl).symm, rfl⟩
    | some r => cases h
  | some l =>
    simp only [Option.bind_some] at h
    cases st' with
    | none => rw [rdOf_bad h]; exact ⟨(h0 rfl).symm, rfl⟩
    | some r => rw [rdOf_good h]; exact ⟨rfl, rfl⟩

end Go.Proofs.Ytipacoopapjdpaa

/- Summaries held against one another: plain Lean. -/
namespace Go.Proofs.Ytipacoopapjdpaa
set_option linter.unusedVariables false
set_option linter.unusedSimpArgs false
open Go Go.RowKit SL

def decEqAlm (a b : Alm) : Decidable (a = b) :=
  if h : a.pos = b.pos ∧ a.kind = b.kind then .isTrue (by cases a; cases b; simp at h; simp [h]) else .isFalse (fun e => h (by subst e; exact ⟨rfl, rfl⟩))
instance : DecidableEq Alm := decEqAlm
def decEqIvl (a b : Ivl) : Decidable (a = b) :=
  if h : a.some = b.some ∧ a.lo = b.lo ∧ a.hi = b.hi then .isTrue (by cases a; cases b; simp at h; simp [h]) else .isFalse (fun e => h (by subst e; exact ⟨rfl, rfl, rfl⟩))
instance : DecidableEq Ivl := decEqIvl
def decEqNmd (a b : Nmd) : Decidable (a = b) :=
  if h : a.name = b.name ∧ a.v = b.v then .isTrue (by cases a; cases b; simp at h; simp [h]) else .isFalse (fun e => h (by subst e; exact ⟨rfl, rfl⟩))
instance : DecidableEq Nmd := decEqNmd
def decEqSmy (a b : Smy) : Decidable (a = b) :=
  if h : a.alarms = b.alarms ∧ a.ends = b.ends ∧ a.ret = b.ret ∧ a.mod = b.mod then .isTrue (by cases a; cases b; simp at h; simp [h]) else .isFalse (fun e => h (by subst e; exact ⟨rfl, rfl, rfl, rfl⟩))
instance : DecidableEq Smy := decEqSmy

theorem alm_cmp (a b : Alm) : ((a.pos == b.pos) && ((a.kind == b.kind) && true)) = decide (a = b) := by
  cases a; cases b
  simp only [Bool.and_true, Alm.mk.injEq, Bool.decide_and]
  rfl
theorem ivl_cmp (a b : Ivl) : ((a.some == b.some) && ((a.lo == b.lo) && ((a.hi == b.hi) && true))) = decide (a = b) := by
  cases a; cases b
  simp only [Bool.and_true, Ivl.mk.injEq, Bool.decide_and]
  rfl
theorem nmd_cmp (a b : Nmd) : ((a.name == b.name) && ((a.v.some == b.v.some) && ((a.v.lo == b.v.lo) && ((a.v.hi == b.v.hi) && true)))) = decide (a = b) := by
  rw [ivl_cmp]
  cases a; cases b
  rw [Bool.eq_iff_iff]; simp

theorem list_ne_at {α : Type} [DecidableEq α] {xs ys : List α} {i : Nat} (h : i < xs.length) (h' : i < ys.length) (hne : xs[i] ≠ ys[i]) : decide (xs = ys) = false := by
  refine decide_eq_false fun e => ?_
  subst e; exact hne rfl

theorem list_eq_all {α : Type} {xs ys : List α} (hl : xs.length = ys.length) (h : ∀ i (h : i < xs.length) (h' : i < ys.length), xs[i] = ys[i]) : xs = ys := List.ext_getElem hl h

theorem len_ne {α β : Type} {f : α → V} {g : β → V} {a : List α} {b : List β} (h : ((((a.map f).length : Nat) : Int) != (((b.map g).length : Nat) : Int)) = true) : a.length ≠ b.length := by
  intro e
  rw [List.length_map, List.length_map, e] at h
  simp at h
theorem len_nn {α β : Type} {f : α → V} {g : β → V} {a : List α} {b : List β} (h : ((((a.map f).length : Nat) : Int) != (((b.map g).length : Nat) : Int)) = false) : a.length = b.length := by
  rw [List.length_map, List.length_map] at h
  have : ((a.length : Nat) : Int) = ((b.length : Nat) : Int) := by simpa using h
  omega
theorem all_two {α : Type} {a b : List α} {i : Nat} (hall : ∀ k (h1 : k < a.length) (h2 : k < b.length), k < i → a[k] = b[k]) (hj1 : i < a.length) (hj2 : i < b.length) (h : a[i] = b[i]) :
    ∀ k (h1 : k < a.length) (h2 : k < b.length), k < i + 1 → a[k] = b[k] := fun k h1 h2 hk => by
  rcases Nat.lt_or_ge k i with h' | h'
  · exact hall k h1 h2 h'
  · obtain rfl : k = i := by omega
    exact h
theorem dec_ff {p : Prop} [Decidable p] (h : ¬ p) : D.val (.bool false) = .val (.bool (decide p)) := by rw [decide_eq_false h]
theorem dec_tt {p : Prop} [Decidable p] (h : p) : D.val (.bool true) = .val (.bool (decide p)) := by rw [decide_eq_true h]

theorem smy_eq {a b : Smy} (h1 : a.ends = b.ends) (h2 : a.ret = b.ret) (h3 : a.alarms = b.alarms) (h4 : a.mod = b.mod) : a = b := by
  cases a; cases b; simp_all

theorem decMany_num {α : Type} {dec : List UInt8 → Option (α × List UInt8)} : ∀ (n : Nat) (l : List UInt8) (xs : List α) (r : List UInt8), decMany dec n l = some (xs, r) → xs.length = n
  | 0, l, xs, r, h => by simp only [decMany, Option.some.injEq, Prod.mk.injEq] at h; rw [← h.1]; rfl
  | n + 1, l, xs, r, h => by
    unfold decMany bindR at h
    cases e : decMany dec n l with
    | none => rw [e] at h; cases h
    | some p =>
      have := decMany_num n l p.1 p.2 (by rw [e])
      rw [e] at h
      simp only at h
      cases e2 : dec p.2 with
      | none => rw [e2] at h; cases h
      | some q =>
        rw [e2] at h
        simp only [Option.some.injEq, Prod.mk.injEq] at h
        rw [← h.1, List.length_append, this]; rfl

theorem bindR_some {α β : Type} {x : Option (α × List UInt8)} {f : α → List UInt8 → Option (β × List UInt8)} {b : β} {r : List UInt8} (h : bindR x f = some (b, r)) : ∃ a r1, x = some (a, r1) ∧ f a r1 = some (b, r) := by
  cases x with
  | none => cases h
  | some p => exact ⟨p.1, p.2, rfl, h⟩

theorem decAl_num {l r : List UInt8} {al : List Alm} (h : decAl l = some (al, r)) : al.length ≤ l.length ∧ r.length ≤ l.length := by
  obtain ⟨n, r1, h1, h2⟩ := bindR_some h
  have := decMany_num _ _ _ _ h2
  have := decC_inv h1
  have := decMany_len (fun _ _ _ h => decA_len h) n r1 al r h2
  omega
theorem decMl_num {l r : List UInt8} {ml : List Nmd} (h : decMl l = some (ml, r)) : ml.length ≤ l.length := by
  obtain ⟨n, r1, h1, h2⟩ := bindR_some h
  have := decMany_num _ _ _ _ h2
  have := decC_inv h1
  omega

theorem decSumm_num {l r : List UInt8} {s : Smy} (h : decSumm l = some (s, r)) : s.alarms.length ≤ l.length ∧ s.mod.length ≤ l.length := by
  obtain ⟨al, r1, h1, h⟩ := bindR_some h
  obtain ⟨e, r2, h2, h⟩ := bindR_some h
  obtain ⟨v, r3, h3, h⟩ := bindR_some h
  obtain ⟨ml, r4, h4, h⟩ := bindR_some h
  simp only [Option.some.injEq, Prod.mk.injEq] at h
  obtain ⟨rfl, rfl⟩ := h
  have a1 := decAl_num h1
  have a2 := decMl_num h4
  have a3 := decB_len h2
  have a4 := decV_len h3
  exact ⟨a1.1, by simp only; omega⟩

theorem summ_small {q : Nat} {st : Option (List UInt8)} {c : Chunk} (h : Rdr q st c) : (rdOf decSumm noSumm st).1.alarms.length ≤ 100000000 ∧ (rdOf decSumm noSumm st).1.mod.length ≤ 100000000 := by
  cases st with
  | none => exact ⟨Nat.zero_le _, Nat.zero_le _⟩
  | some l =>
    obtain ⟨_, hl⟩ := h
    cases e : decSumm l with
    | none => rw [rdOf_bad e]; exact ⟨Nat.zero_le _, Nat.zero_le _⟩
    | some p =>
      have := decSumm_num (s := p.1) (r := p.2) (by rw [e])
      rw [rdOf_good (v := p.1) (r := p.2) (by rw [e])]
      simp only; omega

theorem self_u64 (n : Nat) : D.val (.bool (((n : Nat) : Int) == (n : Int))) = .val (.bool true) := by rw [beq_self_eq_true]
theorem self_i64 (n : Int) : D.val (.bool (n == n)) = .val (.bool true) := by rw [beq_self_eq_true]
theorem self_str (n : List UInt8) : D.val (.bool (n == n)) = .val (.bool true) := by rw [beq_self_eq_true]
theorem self_bool (n : Bool) : D.val (.bool (n == n)) = .val (.bool true) := by rw [beq_self_eq_true]

theorem done_end (l : List UInt8) : D.val (.bool ((doneV (some l) == 0) == (((l.map byteV).length : Int) == 0))) = .val (.bool true) := by
  cases l with
  | nil => rfl
  | cons x l =>
    have : ((((x :: l).map byteV).length : Int) == 0) = false := by simp; omega
    rw [this]; rfl

theorem not_dec {p : Prop} [Decidable p] {b : Bool} (h : b = decide p) : (!b) = !decide p := by rw [h]

end Go.Proofs.Ytipacoopapjdpaa

/- A list that is changed from the left on; intervals that say nothing: plain Lean. -/
namespace Go.Proofs.Ytipacoopapjdpaa
set_option linter.unusedVariables false
set_option linter.unusedSimpArgs false
open Go Go.RowKit SL

/-- The first j changed, the others not yet. -/
def mix {α : Type} (f : α → α) (l : List α) (j : Nat) : List α := (l.take j).map f ++ l.drop j

theorem mix_zero {α : Type} (f : α → α) (l : List α) : mix f l 0 = l := by simp [mix]
theorem mix_len {α : Type} (f : α → α) (l : List α) (j : Nat) : (mix f l j).length = l.length := by
  simp only [mix, List.length_append, List.length_map, List.length_take, List.length_drop]; omega
theorem mix_all {α : Type} (f : α → α) (l : List α) {j : Nat} (h : l.length ≤ j) : mix f l j = l.map f := by
  simp [mix, List.take_of_length_le h, List.drop_eq_nil_of_le h]
theorem mix_get {α : Type} (f : α → α) {l : List α} {j : Nat} (h : j < l.length) : (mix f l j)[j]? = some l[j] := by
  have : ((l.take j).map f).length = j := by simp; omega
  rw [mix, List.getElem?_append_right (by omega), this, Nat.sub_self, List.getElem?_drop, Nat.add_zero, List.getElem?_eq_getElem h]
theorem mix_next {α : Type} (f : α → α) {l : List α} {j : Nat} (h : j < l.length) : mix f l (j + 1) = (l.take j).map f ++ (f l[j] :: l.drop (j + 1)) := by
  rw [mix, List.take_add_one, List.getElem?_eq_getElem h, List.map_append, List.append_assoc]; rfl
theorem mix_set {α : Type} (f : α → α) {l : List α} {j : Nat} (h : j < l.length) : (mix f l j).set j (f l[j]) = mix f l (j + 1) := by
  have : ((l.take j).map f).length = j := by simp; omega
  rw [mix_next f h, mix, List.set_append_right _ _ (by omega), this, Nat.sub_self, List.drop_eq_getElem_cons h, List.set_cons_zero]
theorem mix_same {α : Type} (f : α → α) {l : List α} {j : Nat} (h : j < l.length) (he : f l[j] = l[j]) : mix f l j = mix f l (j + 1) := by
  rw [mix_next f h, mix, he, List.drop_eq_getElem_cons h]

def normV (v : Ivl) : Ivl := if v.some then v else noIval
def normM (m : Nmd) : Nmd := ⟨m.name, normV m.v⟩
def normS (s : Smy) : Smy := ⟨s.alarms, s.ends, normV s.ret, s.mod.map normM⟩

theorem normV_t {v : Ivl} (h : v.some = true) : normV v = v := by simp [normV, h]
theorem normV_f {v : Ivl} (h : v.some = false) : normV v = noIval := by simp [normV, h]
theorem normM_t {m : Nmd} (h : m.v.some = true) : normM m = m := by unfold normM; rw [normV_t h]

end Go.Proofs.Ytipacoopapjdpaa

/- What is written is read back: plain Lean. -/
namespace Go.Proofs.Ytipacoopapjdpaa
set_option linter.unusedVariables false
set_option linter.unusedSimpArgs false
open Go Go.RowKit SL

def AlmI32 (a : Alm) : Prop := isI32 a.pos ∧ isI32 a.kind

theorem isI32_64 {n : Int} (h : isI32 n) : isI64 n := by unfold isI32 at h; unfold isI64; omega

theorem decS_enc {n : Int} (h : isI32 n) (l : List UInt8) : decS (encInt n ++ l) = some (n, l) := by
  unfold decS bindR; rw [decI_enc (isI32_64 h)]; exact if_pos h

theorem decV_enc {v : Ivl} (h : IvlOk v) (l : List UInt8) : decV (encIval v ++ l) = some (normV v, l) := by
  unfold decV bindR encIval
  rw [List.append_assoc, decB_enc]
  obtain ⟨b, lo, hi⟩ := v
  cases b with
  | false => rfl
  | true =>
    simp only [if_true, List.append_assoc]
    rw [decI_enc h.1]
    simp only
    rw [decI_enc h.2]
    rfl

theorem decA_enc {a : Alm} (h : AlmI32 a) (l : List UInt8) : decA (encAlarm a ++ l) = some (a, l) := by
  unfold decA bindR encAlarm
  rw [List.append_assoc, decS_enc h.1]
  simp only
  rw [decS_enc h.2]

theorem decM_enc {m : Nmd} (h : IvlOk m.v) (hl : m.name.length < 18446744073709551616) (l : List UInt8) : decM (encNamed m ++ l) = some (normM m, l) := by
  unfold decM bindR encNamed
  rw [List.append_assoc, decT_enc hl]
  simp only
  rw [decV_enc h]
  rfl

theorem decMany_snoc {α : Type} (dec : List UInt8 → Option (α × List UInt8)) (n : Nat) (l : List UInt8) : decMany dec (n + 1) l = bindR (decMany dec n l) fun xs r => bindR (dec r) fun x r => some (xs ++ [x], r) := rfl

/-- So many written are so many read. -/
theorem decMany_enc {α : Type} {dec : List UInt8 → Option (α × List UInt8)} {enc : α → List UInt8} {nrm : α → α} : ∀ (k : Nat) (xs : List α), k ≤ xs.length → (∀ x ∈ xs, ∀ l, dec (enc x ++ l) = some (nrm x, l)) → ∀ l,
    decMany dec k (xs.flatMap enc ++ l) = some ((xs.take k).map nrm, (xs.drop k).flatMap enc ++ l)
  | 0, xs, _, h, l => by simp [decMany]
  | k + 1, xs, hk, h, l => by
    have hk' : k < xs.length := hk
    rw [decMany_snoc, decMany_enc k xs (by omega) h l]
    unfold bindR
    simp only
    rw [List.drop_eq_getElem_cons hk', List.flatMap_cons, List.append_assoc, h _ (List.getElem_mem hk')]
    simp only
    rw [take_snoc hk', List.map_append]; rfl

theorem flat_ge {α : Type} {f : α → List UInt8} : ∀ {ns : List α}, (∀ n ∈ ns, 0 < (f n).length) → ns.length ≤ (ns.flatMap f).length
  | [], _ => Nat.le_refl _
  | n :: ns, h => by
    have := flat_ge (f := f) (ns := ns) fun m hm => h m (List.mem_cons_of_mem _ hm)
    have := h n (List.mem_cons_self ..)
    rw [List.flatMap_cons, List.length_append, List.length_cons]; omega

theorem encAlarm_pos (a : Alm) : 0 < (encAlarm a).length := by
  have := encNum_pos (zig a.pos)
  unfold encAlarm encInt
  rw [List.length_append]; omega
theorem encNamed_pos (m : Nmd) : 0 < (encNamed m).length := by
  have := encText_pos m.name
  unfold encNamed
  rw [List.length_append]; omega

theorem decAl_enc {al : List Alm} (h : ∀ a ∈ al, AlmI32 a) (hn : al.length < 18446744073709551616) (l : List UInt8) : decAl (encAlarms al ++ l) = some (al, l) := by
  unfold decAl decC bindR encAlarms
  rw [List.append_assoc, decN_enc hn]
  simp only
  have := flat_ge (f := encAlarm) (ns := al) fun a _ => encAlarm_pos a
  rw [if_pos (by rw [List.length_append]; omega)]
  simp only
  rw [decMany_enc (nrm := id) al.length al (Nat.le_refl _) (fun a ha l => decA_enc (h a ha) l) l]
  simp

theorem decMl_enc {ml : List Nmd} (h : ∀ m ∈ ml, IvlOk m.v ∧ m.name.length < 18446744073709551616) (hn : ml.length < 18446744073709551616) (l : List UInt8) : decMl (encNum ml.length ++ (ml.flatMap encNamed ++ l)) = some (ml.map normM, l) := by
  unfold decMl decC bindR
  rw [decN_enc hn]
  simp only
  have := flat_ge (f := encNamed) (ns := ml) fun a _ => encNamed_pos a
  rw [if_pos (by rw [List.length_append]; omega)]
  simp only
  rw [decMany_enc (nrm := normM) ml.length ml (Nat.le_refl _) (fun m hm l => decM_enc (h m hm).1 (h m hm).2 l) l]
  simp

theorem decSumm_enc {s : Smy} (h : SmyOk s) (hl : SmyLight s) (h32 : ∀ a ∈ s.alarms, AlmI32 a) (l : List UInt8) : decSumm (encSumm s ++ l) = some (normS s, l) := by
  unfold decSumm bindR encSumm
  simp only [List.append_assoc]
  rw [decAl_enc h32 (by have := hl.1; omega)]
  simp only
  rw [decB_enc]
  simp only
  rw [decV_enc h.2.1]
  simp only
  rw [decMl_enc (fun m hm => ⟨h.2.2 m hm, by have := hl.2.2 m hm; omega⟩) (by have := hl.2.1; omega)]
  rfl

theorem drop_flat {α : Type} {f : α → List UInt8} {ns : List α} {k : Nat} (h : k < ns.length) : (ns.drop k).flatMap f = f ns[k] ++ (ns.drop (k + 1)).flatMap f := by
  rw [List.drop_eq_getElem_cons h, List.flatMap_cons]

theorem rd_enc {α : Type} {dec : List UInt8 → Option (α × List UInt8)} {z x : α} {e r l : List UInt8} (he : l = e ++ r) (h : dec (e ++ r) = some (x, r)) : rdOf dec z (some l) = (x, some r) := by
  rw [he]; exact rdOf_good h

end Go.Proofs.Ytipacoopapjdpaa

/- Requests and replies as bytes: plain Lean. -/
namespace Go.Proofs.Ytipacoopapjdpaa
set_option linter.unusedVariables false
set_option linter.unusedSimpArgs false
open Go Go.RowKit SL

structure Req where
  kind : Int
  name : List UInt8
  text : List UInt8
  n : Int
structure Rep where
  kind : Int
  err : Int
  pos : Int
  alarms : List Alm
  text : List UInt8
  n : Int

def reqV (r : Req) : V := .agg [.int .i64 r.kind, .str r.name, .str r.text, .int .i64 r.n]
def repV (r : Rep) : V := .agg [.int .i64 r.kind, .int .i64 r.err, .int .i64 r.pos, .list (r.alarms.map almV), .str r.text, .int .i64 r.n]
def noReq : Req := ⟨0, [], [], 0⟩
def noRep : Rep := ⟨0, 0, 0, [], [], 0⟩

def encReq (r : Req) : List UInt8 := encNum r.kind.toNat ++ encText r.name ++ encText r.text ++ encInt r.n
def encRep (r : Rep) : List UInt8 := encNum r.kind.toNat ++ encInt r.err ++ encInt r.pos ++ encAlarms r.alarms ++ encText r.text ++ encInt r.n

/-- A kind within bounds, read. -/
def decK (lo hi : Nat) (l : List UInt8) : Option (Nat × List UInt8) := bindR (decN 0 l) fun k r => if lo ≤ k ∧ k ≤ hi then some (k, r) else none

/-- A request, a reply, read: with whatever kind. -/
def decReq (l : List UInt8) : Option (Req × List UInt8) :=
  bindR (decN 0 l) fun k r => bindR (decT r) fun a r => bindR (decT r) fun t r => bindR (decS r) fun n r => some (⟨k, a, t, n⟩, r)
def decRep (l : List UInt8) : Option (Rep × List UInt8) :=
  bindR (decN 0 l) fun k r => bindR (decS r) fun e r => bindR (decS r) fun p r => bindR (decAl r) fun al r => bindR (decT r) fun t r => bindR (decS r) fun n r => some (⟨k, e, p, al, t, n⟩, r)

/-- What was read is all. -/
def whole {α : Type} (ok : α → Prop) [DecidablePred ok] (x : Option (α × List UInt8)) : Option α :=
  match x with
  | some (a, []) => if ok a then some a else none
  | _ => none

def reqOk (r : Req) : Prop := 1 ≤ r.kind ∧ r.kind ≤ 7
instance : DecidablePred reqOk := fun r => inferInstanceAs (Decidable (_ ∧ _))
def repOk (r : Rep) : Prop := r.kind ≤ 5
instance : DecidablePred repOk := fun r => inferInstanceAs (Decidable (_ ≤ _))

def openReq (b : List UInt8) : Option Req := if b.length > 8192 then none else whole reqOk (decReq b)
def openRep (b : List UInt8) : Option Rep := whole repOk (decRep b)

def errOf {α : Type} : Option α → Int
  | some _ => 0
  | none => 80

/-- The reader's state, as far as nothing was wrong. -/
def eff (wr : Bool) (st : Option (List UInt8)) : Option (List UInt8) := if wr then none else st

theorem eff_none (wr : Bool) : eff wr none = none := by cases wr <;> rfl

theorem out_none_all {α : Type} (dec : List UInt8 → Option (α × List UInt8)) (x : α) : Out dec none x none := rfl

theorem out_pub {α : Type} {dec : List UInt8 → Option (α × List UInt8)} {z : α} (wr : Bool) (st : Option (List UInt8)) : Out dec (eff wr st) (rdOf dec z st).1 (eff wr (rdOf dec z st).2) := by
  cases wr with
  | true => rfl
  | false => exact out_rdOf st

theorem eff_true (st : Option (List UInt8)) : eff true st = none := rfl
theorem eff_false (st : Option (List UInt8)) : eff false st = st := rfl

theorem small_wrong {wr : Bool} {st : Option (List UInt8)} (h : wr = true ∨ ¬ isI32 (rdOf decI 0 st).1) : Out decS (eff wr st) (rdOf decI 0 st).1 (eff true (rdOf decI 0 st).2) := by
  rw [eff_true]
  rcases h with rfl | h
  · rfl
  · cases wr with
    | true => rfl
    | false =>
      cases st with
      | none => rfl
      | some l =>
        show decS l = none
        cases e : decI l with
        | none => unfold decS bindR; rw [e]
        | some p =>
          rw [rdOf_good (v := p.1) (r := p.2) (by rw [e])] at h
          unfold decS bindR; rw [e]; exact if_neg h

theorem small_right {st : Option (List UInt8)} (h : isI32 (rdOf decI 0 st).1) : Out decS (eff false st) (rdOf decI 0 st).1 (eff false (rdOf decI 0 st).2) := by
  rw [eff_false, eff_false]
  cases st with
  | none => rfl
  | some l =>
    show decS l = _
    cases e : decI l with
    | none => rw [rdOf_bad e]; unfold decS bindR; rw [e]; rfl
    | some p =>
      rw [rdOf_good (v := p.1) (r := p.2) (by rw [e])] at h ⊢
      unfold decS bindR; rw [e]; exact if_pos h

theorem kind_wrong {lo hi k : Nat} {wr : Bool} {st : Option (List UInt8)} (h : wr = true ∨ ¬ (lo ≤ (rdOf (decN 0) 0 st).1 ∧ (rdOf (decN 0) 0 st).1 ≤ hi)) : Out (decK lo hi) (eff wr st) k (eff true (rdOf (decN 0) 0 st).2) := by
  rw [eff_true]
  rcases h with rfl | h
  · rfl
  · cases wr with
    | true => rfl
    | false =>
      cases st with
      | none => rfl
      | some l =>
        show decK lo hi l = none
        cases e : decN 0 l with
        | none => unfold decK bindR; rw [e]
        | some p =>
          rw [rdOf_good (v := p.1) (r := p.2) (by rw [e])] at h
          unfold decK bindR; rw [e]; exact if_neg h

theorem kind_right {lo hi : Nat} {st : Option (List UInt8)} (h : lo ≤ (rdOf (decN 0) 0 st).1 ∧ (rdOf (decN 0) 0 st).1 ≤ hi) : Out (decK lo hi) (eff false st) (rdOf (decN 0) 0 st).1 (eff false (rdOf (decN 0) 0 st).2) := by
  rw [eff_false, eff_false]
  cases st with
  | none => rfl
  | some l =>
    show decK lo hi l = _
    cases e : decN 0 l with
    | none => rw [rdOf_bad e]; unfold decK bindR; rw [e]; rfl
    | some p =>
      rw [rdOf_good (v := p.1) (r := p.2) (by rw [e])] at h ⊢
      unfold decK bindR; rw [e]; exact if_pos h

/-- The low 31 bits. -/
theorem low31 {n : Nat} (h : n < 18446744073709551616) : D.val (.int .u64 (IntKind.u64.wrap ((BitVec.ofInt IntKind.u64.bits ((n : Nat) : Int) &&& BitVec.ofInt IntKind.u64.bits 2147483647).toNat : Int))) = .val (.int .u64 ((n % 2147483648 : Nat) : Int)) := by
  have e1 : (BitVec.ofInt 64 ((n : Nat) : Int)).toNat = n := by
    rw [BitVec.toNat_ofInt]; omega
  have e2 : (BitVec.ofInt 64 (2147483647 : Int)).toNat = 2147483647 := by decide
  have e3 : (BitVec.ofInt 64 ((n : Nat) : Int) &&& BitVec.ofInt 64 2147483647).toNat = n % 2147483648 := by
    rw [BitVec.toNat_and, e1, e2]
    exact Nat.and_two_pow_sub_one_eq_mod n 31
  show D.val (.int .u64 (IntKind.u64.wrap ((BitVec.ofInt 64 ((n : Nat) : Int) &&& BitVec.ofInt 64 2147483647).toNat : Int))) = _
  rw [e3, wrapped_u64 _ (by omega)]

theorem kind_last {p q n lo hi : Nat} {st : Option (List UInt8)} {c2 : Chunk} {σ : List Chunk} (hn : n = (rdOf (decN 0) 0 st).1) (ha : lo ≤ n) (hhi : hi ≤ 1000) (h2 : Rdr q (rdOf (decN 0) 0 st).2 c2) :
    ∃ k : Nat, ∃ wr' st' c', D.val (.int .i64 ((n % 2147483648 : Nat) : Int)) = .val (.int .i64 (k : Int)) ∧ Out (decK lo hi) (eff false st) k (eff wr' st') ∧ Rdr q st' c' ∧
      Chunk.blk p [.ptr q 0, .val (.bool (decide (((n : Nat) : Int) > ((hi : Nat) : Int))))] :: c2 :: σ = .blk p [.ptr q 0, .val (.bool wr')] :: c' :: σ := by
  by_cases h : n ≤ hi
  · refine ⟨n, false, _, c2, by rw [Nat.mod_eq_of_lt (by omega)], ?_, h2, by rw [decide_eq_false (by omega)]⟩
    rw [hn]; exact kind_right ⟨by rw [← hn]; exact ha, by rw [← hn]; exact h⟩
  · exact ⟨n % 2147483648, true, _, c2, rfl, kind_wrong (.inr (fun hh => h (by rw [hn]; exact hh.2))), h2, by rw [decide_eq_true (by omega)]⟩

theorem small_last {p q : Nat} {st : Option (List UInt8)} {c2 : Chunk} {σ : List Chunk} (ha : -2147483648 ≤ (rdOf decI 0 st).1) (h2 : Rdr q (rdOf decI 0 st).2 c2) :
    ∃ n wr' st' c', D.val (i64V (rdOf decI 0 st).1) = .val (.int .i64 n) ∧ Out decS (eff false st) n (eff wr' st') ∧ Rdr q st' c' ∧
      Chunk.blk p [.ptr q 0, .val (.bool (decide ((rdOf decI 0 st).1 > 2147483647)))] :: c2 :: σ = .blk p [.ptr q 0, .val (.bool wr')] :: c' :: σ := by
  by_cases h : (rdOf decI 0 st).1 ≤ 2147483647
  · exact ⟨_, false, _, c2, rfl, small_right ⟨ha, h⟩, h2, by rw [decide_eq_false (by omega)]⟩
  · exact ⟨_, true, _, c2, rfl, small_wrong (.inr (fun hh => h hh.2)), h2, by rw [decide_eq_true (by omega)]⟩

/-- With the kind held to its bounds at once. -/
theorem whole_decReq (l : List UInt8) : whole reqOk (decReq l) = whole (fun _ => True) (bindR (decK 1 7 l) fun k r => bindR (decT r) fun a r => bindR (decT r) fun t r => bindR (decS r) fun n r => some ((⟨k, a, t, n⟩ : Req), r)) := by
  unfold decReq decK bindR
  cases e : decN 0 l with
  | none => rfl
  | some p =>
    obtain ⟨k, r⟩ := p
    simp only
    by_cases hk : 1 ≤ k ∧ k ≤ 7
    · rw [if_pos hk]
      simp only
      split
      · rfl
      · split
        · rfl
        · split
          · rfl
          · rename_i n r4 _
            cases r4 with
            | nil => exact if_pos (show reqOk _ from ⟨by simp only; omega, by simp only; omega⟩)
            | cons => rfl
    · rw [if_neg hk]
      simp only
      split
      · rfl
      · split
        · rfl
        · split
          · rfl
          · rename_i n r4 _
            cases r4 with
            | nil => exact if_neg (fun h : reqOk _ => hk ⟨by have := h.1; simp only at this; omega, by have := h.2; simp only at this; omega⟩)
            | cons => rfl

theorem whole_decRep (l : List UInt8) : whole repOk (decRep l) = whole (fun _ => True) (bindR (decK 0 5 l) fun k r => bindR (decS r) fun e r => bindR (decS r) fun p r => bindR (decAl r) fun al r => bindR (decT r) fun t r => bindR (decS r) fun n r => some ((⟨k, e, p, al, t, n⟩ : Rep), r)) := by
  unfold decRep decK bindR
  cases e : decN 0 l with
  | none => rfl
  | some p =>
    obtain ⟨k, r⟩ := p
    simp only
    by_cases hk : 0 ≤ k ∧ k ≤ 5
    · rw [if_pos hk]
      simp only
      repeat (split; · rfl)
      rename_i n r4 _
      cases r4 with
      | nil => exact if_pos (show repOk _ from by unfold repOk; simp only; omega)
      | cons => rfl
    · rw [if_neg hk]
      simp only
      repeat (split; · rfl)
      rename_i n r4 _
      cases r4 with
      | nil => exact if_neg (fun h : repOk _ => hk ⟨Nat.zero_le _, by unfold repOk at h; simp only at h; omega⟩)
      | cons => rfl

/-- How many there are need not be held against what is left: so many can't be read then. -/
theorem decMany_short {l : List UInt8} : ∀ (n : Nat) (al : List Alm) (r : List UInt8), decMany decA n l = some (al, r) → n + r.length ≤ l.length
  | 0, al, r, h => by simp only [decMany, Option.some.injEq, Prod.mk.injEq] at h; rw [h.2]; omega
  | n + 1, al, r, h => by
    obtain ⟨xs, r1, h1, h⟩ := bindR_some h
    obtain ⟨x, r2, h2, h⟩ := bindR_some h
    simp only [Option.some.injEq, Prod.mk.injEq] at h
    obtain ⟨_, rfl⟩ := h
    have ih := decMany_short n xs r1 h1
    obtain ⟨a, r3, h3, h4⟩ := bindR_some h2
    obtain ⟨k, r4, h5, h6⟩ := bindR_some h4
    simp only [Option.some.injEq, Prod.mk.injEq] at h6
    obtain ⟨_, rfl⟩ := h6
    have a1 := (decS_len h5).1
    have a2 := (decS_len h3).2.2
    unfold decI at a2
    obtain ⟨⟨v, r5⟩, h7, h8⟩ := Option.map_eq_some_iff.mp a2
    simp only [Prod.mk.injEq] at h8
    obtain ⟨_, rfl⟩ := h8
    obtain ⟨p, hp, hne⟩ := decN_rest 0 r1 v r5 h7
    have : 0 < p.length := List.length_pos_iff.mpr hne
    rw [hp, List.length_append] at ih
    omega

theorem decAl_eq (l : List UInt8) : decAl l = bindR (decN 0 l) fun n r => decMany decA n r := by
  unfold decAl decC bindR
  cases e : decN 0 l with
  | none => rfl
  | some p =>
    obtain ⟨n, r⟩ := p
    simp only
    by_cases h : n ≤ r.length
    · rw [if_pos h]
    · rw [if_neg h]
      simp only
      cases e2 : decMany decA n r with
      | none => rfl
      | some q => have := decMany_short n q.1 q.2 (by rw [e2]); omega

theorem errOf_eq {α β : Type} {x : Option α} {y : Option β} (h : x.isSome = y.isSome) : errOf x = errOf y := by
  cases x <;> cases y <;> simp at h <;> rfl

end Go.Proofs.Ytipacoopapjdpaa

/- How long requests and replies are: plain Lean. -/
namespace Go.Proofs.Ytipacoopapjdpaa
set_option linter.unusedVariables false
set_option linter.unusedSimpArgs false
open Go Go.RowKit SL

def ReqOk (r : Req) : Prop := isI64 r.kind ∧ isI64 r.n
def RepOk (r : Rep) : Prop := isI64 r.kind ∧ isI64 r.err ∧ isI64 r.pos ∧ isI64 r.n ∧ ∀ a ∈ r.alarms, AlmOk a

theorem max_u64 {k : Int} (h : isI64 k) : D.val (.int .u64 (IntKind.u64.wrap (if (0 : Int) > k then 0 else k))) = .val (u64V k.toNat) := by
  unfold isI64 at h
  split
  · rename_i h0
    rw [show k.toNat = 0 by omega]; rfl
  · rename_i h0
    rw [wrap_u64 (by omega) (by omega)]
    unfold u64V
    rw [Int.toNat_of_nonneg (by omega)]

theorem kind_lt {k : Int} (h : isI64 k) : k.toNat < 18446744073709551616 := by unfold isI64 at h; omega

theorem encAlarms_len {al : List Alm} (h : ∀ a ∈ al, AlmOk a) (hn : al.length ≤ 1000000) : (encAlarms al).length ≤ 10 + 20 * al.length := by
  unfold encAlarms
  rw [List.length_append]
  have h1 := encNum_len (n := al.length) (by omega)
  have h2 := flat_allc (f := encAlarm) (c := 20) (ns := al) (fun a ha => encAlarm_len (h a ha))
  omega

theorem encReq_len {r : Req} (h : ReqOk r) {c : Nat} (hc : c ≤ 1000000) (hn : r.name.length ≤ c) (ht : r.text.length ≤ c) : (encReq r).length ≤ 2 * c + 40 := by
  unfold encReq
  simp only [List.length_append]
  have h1 := encNum_len (kind_lt h.1)
  have h2 := encText_lenc hn (by omega)
  have h3 := encText_lenc ht (by omega)
  have h4 := encInt_len h.2
  omega

theorem encRep_len {r : Rep} (h : RepOk r) {c : Nat} (hc : c ≤ 1000000) (ht : r.text.length ≤ c) (hn : r.alarms.length ≤ 1000) : (encRep r).length ≤ c + 20 * r.alarms.length + 60 := by
  obtain ⟨h1, h2, h3, h4, h5⟩ := h
  unfold encRep
  simp only [List.length_append]
  have a1 := encNum_len (kind_lt h1)
  have a2 := encInt_len h2
  have a3 := encInt_len h3
  have a4 := encInt_len h4
  have a5 := encText_lenc ht (by omega)
  have a6 := encAlarms_len h5 (by omega)
  omega

def decReqK (l : List UInt8) : Option (Req × List UInt8) :=
  bindR (decK 1 7 l) fun k r => bindR (decT r) fun a r => bindR (decT r) fun t r => bindR (decS r) fun n r => some ((⟨k, a, t, n⟩ : Req), r)
def decRepK (l : List UInt8) : Option (Rep × List UInt8) :=
  bindR (decK 0 5 l) fun k r => bindR (decS r) fun e r => bindR (decS r) fun p r => bindR (decAl r) fun al r => bindR (decT r) fun t r => bindR (decS r) fun n r => some ((⟨k, e, p, al, t, n⟩ : Rep), r)

theorem out_reqK {st st1 st2 st3 st4 : Option (List UInt8)} {k : Nat} {a t : List UInt8} {n : Int} (h1 : Out (decK 1 7) st k st1) (h2 : Out decT st1 a st2) (h3 : Out decT st2 t st3) (h4 : Out decS st3 n st4) : Out decReqK st ⟨k, a, t, n⟩ st4 :=
  Out.bind h1 (Out.bind (d2 := fun a r => bindR (decT r) fun t r => bindR (decS r) fun n r => some ((⟨k, a, t, n⟩ : Req), r)) h2
    (Out.bind (d2 := fun t r => bindR (decS r) fun n r => some ((⟨k, a, t, n⟩ : Req), r)) h3 (Out.bind (d2 := fun n r => some ((⟨k, a, t, n⟩ : Req), r)) h4 (Out.done _ _))))
theorem out_req {st st1 st2 st3 st4 : Option (List UInt8)} {k : Nat} {a t : List UInt8} {n : Int} (h1 : Out (decN 0) st k st1) (h2 : Out decT st1 a st2) (h3 : Out decT st2 t st3) (h4 : Out decS st3 n st4) : Out decReq st ⟨k, a, t, n⟩ st4 :=
  Out.bind h1 (Out.bind (d2 := fun a r => bindR (decT r) fun t r => bindR (decS r) fun n r => some ((⟨k, a, t, n⟩ : Req), r)) h2
    (Out.bind (d2 := fun t r => bindR (decS r) fun n r => some ((⟨k, a, t, n⟩ : Req), r)) h3 (Out.bind (d2 := fun n r => some ((⟨k, a, t, n⟩ : Req), r)) h4 (Out.done _ _))))
theorem out_repK {st st1 st2 st3 st4 st5 st6 : Option (List UInt8)} {k : Nat} {e p : Int} {al : List Alm} {t : List UInt8} {n : Int} (h1 : Out (decK 0 5) st k st1) (h2 : Out decS st1 e st2) (h3 : Out decS st2 p st3) (h4 : Out decAl st3 al st4) (h5 : Out decT st4 t st5)
    (h6 : Out decS st5 n st6) : Out decRepK st ⟨k, e, p, al, t, n⟩ st6 :=
  Out.bind h1 (Out.bind (d2 := fun e r => bindR (decS r) fun p r => bindR (decAl r) fun al r => bindR (decT r) fun t r => bindR (decS r) fun n r => some ((⟨k, e, p, al, t, n⟩ : Rep), r)) h2
    (Out.bind (d2 := fun p r => bindR (decAl r) fun al r => bindR (decT r) fun t r => bindR (decS r) fun n r => some ((⟨k, e, p, al, t, n⟩ : Rep), r)) h3
      (Out.bind (d2 := fun al r => bindR (decT r) fun t r => bindR (decS r) fun n r => some ((⟨k, e, p, al, t, n⟩ : Rep), r)) h4
        (Out.bind (d2 := fun t r => bindR (decS r) fun n r => some ((⟨k, e, p, al, t, n⟩ : Rep), r)) h5 (Out.bind (d2 := fun n r => some ((⟨k, e, p, al, t, n⟩ : Rep), r)) h6 (Out.done _ _))))))
theorem out_rep {st st1 st2 st3 st4 st5 st6 : Option (List UInt8)} {k : Nat} {e p : Int} {al : List Alm} {t : List UInt8} {n : Int} (h1 : Out (decN 0) st k st1) (h2 : Out decS st1 e st2) (h3 : Out decS st2 p st3) (h4 : Out decAl st3 al st4) (h5 : Out decT st4 t st5)
    (h6 : Out decS st5 n st6) : Out decRep st ⟨k, e, p, al, t, n⟩ st6 :=
  Out.bind h1 (Out.bind (d2 := fun e r => bindR (decS r) fun p r => bindR (decAl r) fun al r => bindR (decT r) fun t r => bindR (decS r) fun n r => some ((⟨k, e, p, al, t, n⟩ : Rep), r)) h2
    (Out.bind (d2 := fun p r => bindR (decAl r) fun al r => bindR (decT r) fun t r => bindR (decS r) fun n r => some ((⟨k, e, p, al, t, n⟩ : Rep), r)) h3
      (Out.bind (d2 := fun al r => bindR (decT r) fun t r => bindR (decS r) fun n r => some ((⟨k, e, p, al, t, n⟩ : Rep), r)) h4
        (Out.bind (d2 := fun t r => bindR (decS r) fun n r => some ((⟨k, e, p, al, t, n⟩ : Rep), r)) h5 (Out.bind (d2 := fun n r => some ((⟨k, e, p, al, t, n⟩ : Rep), r)) h6 (Out.done _ _))))))

theorem whole_bad {α : Type} {ok : α → Prop} [DecidablePred ok] {dec : List UInt8 → Option (α × List UInt8)} {b : List UInt8} {x : α} {st : Option (List UInt8)} (o : Out dec (some b) x st) (h : st ≠ some [] ∨ ¬ ok x) : whole ok (dec b) = none := by
  unfold Out at o
  simp only [Option.bind_some] at o
  rw [o]
  cases st with
  | none => rfl
  | some r =>
    cases r with
    | cons y r => rfl
    | nil =>
      rcases h with h | h
      · exact absurd rfl h
      · exact if_neg h

theorem whole_good {α : Type} {ok : α → Prop} [DecidablePred ok] {dec : List UInt8 → Option (α × List UInt8)} {b : List UInt8} {x : α} (o : Out dec (some b) x (some [])) (h : ok x) : whole ok (dec b) = some x := by
  unfold Out at o
  simp only [Option.bind_some, Option.map_some] at o
  rw [o]; exact if_pos h

theorem openReq_long {b : List UInt8} (h : b.length > 8192) : openReq b = none := if_pos h
theorem openReq_short {b : List UInt8} (h : ¬ b.length > 8192) : openReq b = whole reqOk (decReq b) := if_neg h
theorem openReqK {b : List UInt8} (h : ¬ b.length > 8192) : openReq b = whole (fun _ => True) (decReqK b) := (if_neg h).trans (whole_decReq b)
theorem openRepK (b : List UInt8) : openRep b = whole (fun _ => True) (decRepK b) := whole_decRep b

theorem doneV_ne {st : Option (List UInt8)} (h : (doneV st != 0) = true) : st ≠ some [] := by
  intro e; subst e; simp [doneV] at h
theorem doneV_eq {st : Option (List UInt8)} (h : (doneV st != 0) = false) : st = some [] := by
  cases st with
  | none => simp [doneV] at h
  | some r => cases r with
    | nil => rfl
    | cons x r => simp [doneV] at h

theorem eff_wrong {st : Option (List UInt8)} : eff true st ≠ some [] := by intro h; cases h

theorem many_zero' {α : Type} {dec : List UInt8 → Option (α × List UInt8)} (st : Option (List UInt8)) : Out (decMany dec 0) st [] st := by cases st <;> rfl
theorem many_step {α : Type} {dec : List UInt8 → Option (α × List UInt8)} {st st1 st2 : Option (List UInt8)} {j : Nat} {xs : List α} {x : α} (h : Out (decMany dec j) st xs st1) (h2 : Out dec st1 x st2) : Out (decMany dec (j + 1)) st (xs ++ [x]) st2 :=
  Out.bind h (Out.bind (d2 := fun x r => some (xs ++ [x], r)) h2 (Out.done _ _))
theorem many_fail' {α : Type} {dec : List UInt8 → Option (α × List UInt8)} {st : Option (List UInt8)} {j : Nat} {xs ys : List α} (h : Out (decMany dec j) st xs none) {n : Nat} (hn : j ≤ n) : Out (decMany dec n) st ys none := by
  cases st with
  | none => rfl
  | some r => exact many_fail h n hn

theorem out_len {α : Type} {dec : List UInt8 → Option (α × List UInt8)} (hd : ∀ l x r, dec l = some (x, r) → r.length ≤ l.length) {E E' : Option (List UInt8)} {x : α} {B : Nat} (h : Out dec E x E') (hE : ∀ l, E = some l → l.length ≤ B) : ∀ l, E' = some l → l.length ≤ B := by
  intro l hl
  subst hl
  cases E with
  | none => cases h
  | some l0 =>
    unfold Out at h
    simp only [Option.bind_some, Option.map_some] at h
    exact Nat.le_trans (hd _ _ _ h) (hE l0 rfl)

theorem decK_len {lo hi : Nat} (l : List UInt8) (x : Nat) (r : List UInt8) (h : decK lo hi l = some (x, r)) : r.length ≤ l.length := by
  obtain ⟨n, r1, h1, h2⟩ := bindR_some h
  split at h2
  · simp only [Option.some.injEq, Prod.mk.injEq] at h2
    rw [← h2.2]; exact decN_len h1
  · cases h2

theorem al_count {E3 E4 E : Option (List UInt8)} {n B : Nat} {al : List Alm} (h : Out (decN 0) E3 n E4) (hB : ∀ l, E4 = some l → l.length ≤ B) (h2 : Out (decMany decA n) (if B < n then none else E4) al E) : Out decAl E3 al E := by
  have key : Out (decMany decA n) E4 al E := by
    split at h2
    · rename_i hlt
      cases E with
      | some r => cases h2
      | none =>
        cases E4 with
        | none => rfl
        | some r =>
          show decMany decA n r = none
          cases e : decMany decA n r with
          | none => rfl
          | some q => have := decMany_short n q.1 q.2 (by rw [e]); have := hB r rfl; omega
    · exact h2
  have : Out (fun l => bindR (decN 0 l) fun n r => decMany decA n r) E3 al E := Out.bind h key
  have e : (fun l => bindR (decN 0 l) fun n r => decMany decA n r) = decAl := funext fun l => (decAl_eq l).symm
  rw [e] at this; exact this

theorem eff_or {wr : Bool} {B n : Nat} {st : Option (List UInt8)} : eff (wr || decide (B < n)) st = if B < n then none else eff wr st := by
  cases wr with
  | true => simp [eff]
  | false =>
    by_cases h : B < n
    · simp [eff, h]
    · simp [eff, h]

def decEqReq (a b : Req) : Decidable (a = b) :=
  if h : a.kind = b.kind ∧ a.name = b.name ∧ a.text = b.text ∧ a.n = b.n then .isTrue (by cases a; cases b; simp at h; simp [h]) else .isFalse (fun e => h (by subst e; exact ⟨rfl, rfl, rfl, rfl⟩))
instance : DecidableEq Req := decEqReq
def decEqRep (a b : Rep) : Decidable (a = b) :=
  if h : a.kind = b.kind ∧ a.err = b.err ∧ a.pos = b.pos ∧ a.alarms = b.alarms ∧ a.text = b.text ∧ a.n = b.n then .isTrue (by cases a; cases b; simp at h; simp [h]) else .isFalse (fun e => h (by subst e; exact ⟨rfl, rfl, rfl, rfl, rfl, rfl⟩))
instance : DecidableEq Rep := decEqRep

theorem req_eq {a b : Req} (h1 : a.kind = b.kind) (h2 : a.name = b.name) (h3 : a.text = b.text) : (a.n == b.n) = decide (a = b) := by
  cases a; cases b
  simp only at h1 h2 h3
  subst h1; subst h2; subst h3
  rw [Bool.eq_iff_iff]; simp
theorem rep_eq {a b : Rep} (h1 : a.kind = b.kind) (h2 : a.err = b.err) (h3 : a.pos = b.pos) (h4 : a.alarms = b.alarms) (h5 : a.text = b.text) : (a.n == b.n) = decide (a = b) := by
  cases a; cases b
  simp only at h1 h2 h3 h4 h5
  subst h1; subst h2; subst h3; subst h4; subst h5
  rw [Bool.eq_iff_iff]; simp

end Go.Proofs.Ytipacoopapjdpaa

/- What is written and read back, cut off, goes on: plain Lean. -/
namespace Go.Proofs.Ytipacoopapjdpaa
set_option linter.unusedVariables false
set_option linter.unusedSimpArgs false
open Go Go.RowKit SL

/-- These bytes, whatever follows, are read as this, or can't be read. -/
def ED {α : Type} (dec : List UInt8 → Option (α × List UInt8)) (e : List UInt8) (o : Option α) : Prop := ∀ l, dec (e ++ l) = o.map fun x => (x, l)

theorem ED.bind {α β : Type} {d1 : List UInt8 → Option (α × List UInt8)} {d2 : α → List UInt8 → Option (β × List UInt8)} {e1 e2 : List UInt8} {o1 : Option α} {o2 : α → Option β} (h1 : ED d1 e1 o1) (h2 : ∀ a, o1 = some a → ED (d2 a) e2 (o2 a)) :
    ED (fun l => bindR (d1 l) d2) (e1 ++ e2) (o1.bind o2) := fun l => by
  show bindR (d1 (e1 ++ e2 ++ l)) d2 = _
  rw [List.append_assoc, h1]
  cases o1 with
  | none => rfl
  | some a => exact h2 a rfl l

theorem ED.done {α : Type} (x : α) : ED (fun r => some (x, r)) [] (some x) := fun l => rfl

theorem ed_num {n : Nat} (h : n < 18446744073709551616) : ED (decN 0) (encNum n) (some n) := fun l => decN_enc h l
theorem ed_text {s : List UInt8} (h : s.length < 18446744073709551616) : ED decT (encText s) (some s) := fun l => decT_enc h l
theorem ed_small {n : Int} (h : isI64 n) : ED decS (encInt n) (if isI32 n then some n else none) := fun l => by
  unfold decS bindR; rw [decI_enc h]
  simp only
  split <;> rfl

instance : DecidablePred AlmI32 := fun a => inferInstanceAs (Decidable (_ ∧ _))

theorem ed_alarm {a : Alm} (h : AlmOk a) : ED decA (encAlarm a) (if AlmI32 a then some a else none) := fun l => by
  have := (ED.bind (e1 := encInt a.pos) (e2 := encInt a.kind) (ed_small h.1) (d2 := fun p r => bindR (decS r) fun k r => some ((⟨p, k⟩ : Alm), r)) (o2 := fun p => (if isI32 a.kind then some a.kind else none).bind fun k => some ⟨p, k⟩)
    (fun p _ => by
      have := ED.bind (e2 := []) (ed_small h.2) (d2 := fun k r => some ((⟨p, k⟩ : Alm), r)) (o2 := fun k => some ⟨p, k⟩) (fun k _ => ED.done _)
      rw [List.append_nil] at this; exact this)) l
  refine Eq.trans this ?_
  congr 1
  by_cases h1 : isI32 a.pos <;> by_cases h2 : isI32 a.kind <;> simp [AlmI32, h1, h2]

theorem ed_many {α : Type} {dec : List UInt8 → Option (α × List UInt8)} {enc : α → List UInt8} {p : α → Prop} [DecidablePred p] : ∀ {xs : List α}, (∀ x ∈ xs, ED dec (enc x) (if p x then some x else none)) → ∀ (k : Nat), k ≤ xs.length →
    ED (decMany dec k) ((xs.take k).flatMap enc) (if ∀ x ∈ xs.take k, p x then some (xs.take k) else none)
  | xs, h, 0, _ => fun l => by simp [decMany]
  | xs, h, k + 1, hk => fun l => by
    have hk' : k < xs.length := hk
    have ih := ed_many h k (by omega)
    have e : (xs.take (k + 1)).flatMap enc = (xs.take k).flatMap enc ++ enc xs[k] := by rw [take_snoc hk', List.flatMap_append, List.flatMap_cons, List.flatMap_nil, List.append_nil]
    have := ED.bind (e2 := enc xs[k]) ih (d2 := fun ys r => bindR (dec r) fun x r => some (ys ++ [x], r)) (o2 := fun ys => (if p xs[k] then some xs[k] else none).bind fun x => some (ys ++ [x]))
      (fun ys _ => by
        have := ED.bind (e2 := []) (h xs[k] (List.getElem_mem hk')) (d2 := fun x r => some (ys ++ [x], r)) (o2 := fun x => some (ys ++ [x])) (fun x _ => ED.done _)
        rw [List.append_nil] at this; exact this)
    rw [e]
    have t := this l
    show decMany dec (k + 1) _ = _
    refine Eq.trans t ?_
    congr 1
    rw [take_snoc hk']
    by_cases h1 : ∀ x ∈ xs.take k, p x
    · rw [if_pos h1]
      by_cases h2 : p xs[k]
      · rw [if_pos h2, if_pos (fun x hx => by rcases List.mem_append.mp hx with hx | hx; exact h1 x hx; rw [List.mem_singleton.mp hx]; exact h2)]; rfl
      · rw [if_neg h2, if_neg (fun h => h2 (h _ (List.mem_append_right _ (List.mem_singleton.mpr rfl))))]; rfl
    · rw [if_neg h1, if_neg (show ¬ ∀ x ∈ xs.take k ++ [xs[k]], p x from fun h => h1 fun x hx => h x (List.mem_append_left _ hx))]; rfl

theorem ed_alarms {al : List Alm} (h : ∀ a ∈ al, AlmOk a) (hn : al.length < 18446744073709551616) : ED decAl (encAlarms al) (if ∀ a ∈ al, AlmI32 a then some al else none) := fun l => by
  have h1 := ed_many (p := AlmI32) (fun a ha => ed_alarm (h a ha)) al.length (Nat.le_refl _)
  rw [List.take_length] at h1
  have h2 := (ED.bind (e1 := encNum al.length) (ed_num hn) (d2 := fun n r => decMany decA n r) (o2 := fun _ => if ∀ a ∈ al, AlmI32 a then some al else none) (fun n hn => by cases hn; exact h1)) l
  rw [decAl_eq]
  exact h2

theorem ed_req {r : Req} (h : ReqOk r) (hn : r.name.length ≤ 1000000) (ht : r.text.length ≤ 1000000) : ED decReq (encReq r) (if isI32 r.n then some ⟨r.kind.toNat, r.name, r.text, r.n⟩ else none) := fun l => by
  have h4 : ∀ (k : Nat) (a t : List UInt8), ED (fun r => bindR (decS r) fun n r => some ((⟨k, a, t, n⟩ : Req), r)) (encInt r.n ++ []) ((if isI32 r.n then some r.n else none).bind fun n => some ⟨k, a, t, n⟩) := fun k a t =>
    ED.bind (ed_small h.2) (d2 := fun n r => some ((⟨k, a, t, n⟩ : Req), r)) (fun n _ => ED.done _)
  have h3 : ∀ (k : Nat) (a : List UInt8), ED _ (encText r.text ++ (encInt r.n ++ [])) _ := fun k a => ED.bind (ed_text (s := r.text) (by omega)) (d2 := fun t r => bindR (decS r) fun n r => some ((⟨k, a, t, n⟩ : Req), r)) (fun t _ => h4 k a t)
  have h2 : ∀ (k : Nat), ED _ (encText r.name ++ (encText r.text ++ (encInt r.n ++ []))) _ := fun k => ED.bind (ed_text (s := r.name) (by omega)) (d2 := fun a r => bindR (decT r) fun t r => bindR (decS r) fun n r => some ((⟨k, a, t, n⟩ : Req), r)) (fun a _ => h3 k a)
  have h1 := (ED.bind (ed_num (kind_lt h.1)) (d2 := fun (k : Nat) r => bindR (decT r) fun a r => bindR (decT r) fun t r => bindR (decS r) fun n r => some ((⟨k, a, t, n⟩ : Req), r)) (fun k _ => h2 k)) l
  have e : encNum r.kind.toNat ++ (encText r.name ++ (encText r.text ++ (encInt r.n ++ []))) = encReq r := by simp [encReq]
  rw [e] at h1
  refine Eq.trans h1 ?_
  by_cases hi : isI32 r.n
  · rw [if_pos hi, if_pos hi]; rfl
  · rw [if_neg hi, if_neg hi]; rfl

def RepI32 (r : Rep) : Prop := isI32 r.err ∧ isI32 r.pos ∧ (∀ a ∈ r.alarms, AlmI32 a) ∧ isI32 r.n
instance : DecidablePred RepI32 := fun r => inferInstanceAs (Decidable (_ ∧ _ ∧ _ ∧ _))

theorem ed_rep {r : Rep} (h : RepOk r) (hn : r.alarms.length ≤ 1000) (ht : r.text.length ≤ 1000000) : ED decRep (encRep r) (if RepI32 r then some ⟨r.kind.toNat, r.err, r.pos, r.alarms, r.text, r.n⟩ else none) := fun l => by
  obtain ⟨hk, he, hp, hnn, ha⟩ := h
  have h6 : ∀ (k : Nat) (e p : Int) (al : List Alm) (t : List UInt8), ED _ (encInt r.n ++ []) _ := fun k e p al t => ED.bind (ed_small hnn) (d2 := fun n r => some ((⟨k, e, p, al, t, n⟩ : Rep), r)) (fun n _ => ED.done _)
  have h5 : ∀ (k : Nat) (e p : Int) (al : List Alm), ED _ (encText r.text ++ (encInt r.n ++ [])) _ := fun k e p al => ED.bind (ed_text (s := r.text) (by omega)) (d2 := fun t r => bindR (decS r) fun n r => some ((⟨k, e, p, al, t, n⟩ : Rep), r)) (fun t _ => h6 k e p al t)
  have h4 : ∀ (k : Nat) (e p : Int), ED _ (encAlarms r.alarms ++ (encText r.text ++ (encInt r.n ++ []))) _ := fun k e p => ED.bind (ed_alarms ha (by omega)) (d2 := fun al r => bindR (decT r) fun t r => bindR (decS r) fun n r => some ((⟨k, e, p, al, t, n⟩ : Rep), r)) (fun al _ => h5 k e p al)
  have h3 : ∀ (k : Nat) (e : Int), ED _ (encInt r.pos ++ (encAlarms r.alarms ++ (encText r.text ++ (encInt r.n ++ [])))) _ := fun k e => ED.bind (ed_small hp) (d2 := fun p r => bindR (decAl r) fun al r => bindR (decT r) fun t r => bindR (decS r) fun n r => some ((⟨k, e, p, al, t, n⟩ : Rep), r)) (fun p _ => h4 k e p)
  have h2 : ∀ (k : Nat), ED _ (encInt r.err ++ (encInt r.pos ++ (encAlarms r.alarms ++ (encText r.text ++ (encInt r.n ++ []))))) _ := fun k => ED.bind (ed_small he) (d2 := fun e r => bindR (decS r) fun p r => bindR (decAl r) fun al r => bindR (decT r) fun t r => bindR (decS r) fun n r => some ((⟨k, e, p, al, t, n⟩ : Rep), r)) (fun e _ => h3 k e)
  have h1 := (ED.bind (ed_num (kind_lt hk)) (d2 := fun (k : Nat) r => bindR (decS r) fun e r => bindR (decS r) fun p r => bindR (decAl r) fun al r => bindR (decT r) fun t r => bindR (decS r) fun n r => some ((⟨k, e, p, al, t, n⟩ : Rep), r)) (fun k _ => h2 k)) l
  have e : encNum r.kind.toNat ++ (encInt r.err ++ (encInt r.pos ++ (encAlarms r.alarms ++ (encText r.text ++ (encInt r.n ++ []))))) = encRep r := by simp [encRep]
  rw [e] at h1
  refine Eq.trans h1 ?_
  congr 1
  by_cases c1 : isI32 r.err
  · by_cases c2 : isI32 r.pos
    · by_cases c3 : ∀ a ∈ r.alarms, AlmI32 a
      · by_cases c4 : isI32 r.n
        · rw [if_pos c1, if_pos c2, if_pos c3, if_pos c4, if_pos ⟨c1, c2, c3, c4⟩]; rfl
        · rw [if_pos c1, if_pos c2, if_pos c3, if_neg c4, if_neg (show ¬ RepI32 r from fun h => c4 h.2.2.2)]; rfl
      · rw [if_pos c1, if_pos c2, if_neg c3, if_neg (show ¬ RepI32 r from fun h => c3 h.2.2.1)]; rfl
    · rw [if_pos c1, if_neg c2, if_neg (show ¬ RepI32 r from fun h => c2 h.2.1)]; rfl
  · rw [if_neg c1, if_neg (show ¬ RepI32 r from fun h => c1 h.1)]; rfl

theorem ED.all {α : Type} {ok : α → Prop} [DecidablePred ok] {dec : List UInt8 → Option (α × List UInt8)} {e : List UInt8} {o : Option α} (h : ED dec e o) : whole ok (dec e) = o.bind fun x => if ok x then some x else none := by
  have := h []
  rw [List.append_nil] at this
  rw [this]
  cases o <;> rfl

/-- It goes on. -/
theorem ED.more {α : Type} {ok : α → Prop} [DecidablePred ok] {dec : List UInt8 → Option (α × List UInt8)} {e : List UInt8} {o : Option α} (h : ED dec e o) (x : UInt8) : whole ok (dec (e ++ [x])) = none := by
  rw [h [x]]
  cases o <;> rfl

/-- What can be read can be read if it goes on, and as much is left over. -/
def Ext {α : Type} (dec : List UInt8 → Option (α × List UInt8)) : Prop := ∀ l x r e, dec l = some (x, r) → dec (l ++ e) = some (x, r ++ e)

theorem Ext.bind {α β : Type} {d1 : List UInt8 → Option (α × List UInt8)} {d2 : α → List UInt8 → Option (β × List UInt8)} (h1 : Ext d1) (h2 : ∀ a, Ext (d2 a)) : Ext fun l => bindR (d1 l) d2 := fun l x r e h => by
  obtain ⟨a, r1, g1, g2⟩ := bindR_some h
  show bindR (d1 (l ++ e)) d2 = _
  rw [h1 l a r1 e g1]
  exact h2 a r1 x r e g2
theorem Ext.done {α : Type} (x : α) : Ext fun r => some (x, r) := fun l y r e h => by
  simp only [Option.some.injEq, Prod.mk.injEq] at h
  rw [h.1, h.2]

theorem ext_num : ∀ (i : Nat), Ext (decN i) := by
  suffices ∀ (l : List UInt8) (i : Nat) x r e, decN i l = some (x, r) → decN i (l ++ e) = some (x, r ++ e) from fun i l x r e h => this l i x r e h
  intro l
  induction l with
  | nil => intro i x r e h; simp [decN] at h
  | cons y l ih =>
    intro i x r e h
    rw [List.cons_append]
    unfold decN at h ⊢
    split at h
    · cases h
    · rename_i h1
      rw [if_neg h1]
      split at h
      · rename_i h2
        rw [if_pos h2]
        split at h
        · cases h
        · rename_i h3
          rw [if_neg h3]
          simp only [Option.some.injEq, Prod.mk.injEq] at h
          rw [h.1, h.2]
      · rename_i h2
        rw [if_neg h2]
        cases e2 : decN (i + 1) l with
        | none => rw [e2] at h; cases h
        | some p =>
          rw [e2] at h
          rw [ih (i + 1) p.1 p.2 e (by rw [e2])]
          simp only [Option.map_some, Option.some.injEq, Prod.mk.injEq] at h ⊢
          exact ⟨h.1, by rw [h.2]⟩

theorem ext_int : Ext decI := fun l x r e h => by
  unfold decI at h ⊢
  obtain ⟨⟨v, r5⟩, h7, h8⟩ := Option.map_eq_some_iff.mp h
  rw [ext_num 0 l v r5 e h7]
  simp only [Prod.mk.injEq] at h8
  rw [← h8.1, ← h8.2]; rfl

theorem ext_small : Ext decS := Ext.bind ext_int fun n l x r e h => by
  split at h
  · rename_i h1
    simp only [Option.some.injEq, Prod.mk.injEq] at h
    rw [if_pos h1, h.1, h.2]
  · cases h

theorem ext_text : Ext decT := fun l x r e h => by
  unfold decT at h ⊢
  cases e1 : decN 0 l with
  | none => rw [e1] at h; cases h
  | some p =>
    rw [e1] at h
    rw [ext_num 0 l p.1 p.2 e (by rw [e1])]
    simp only at h ⊢
    split at h
    · rename_i h1
      simp only [Option.some.injEq, Prod.mk.injEq] at h
      rw [if_pos (by rw [List.length_append]; omega), List.take_append_of_le_length h1, List.drop_append_of_le_length h1, h.1, h.2]
    · cases h

theorem ext_many {α : Type} {dec : List UInt8 → Option (α × List UInt8)} (hd : Ext dec) : ∀ n, Ext (decMany dec n)
  | 0 => fun l x r e h => by
    simp only [decMany, Option.some.injEq, Prod.mk.injEq] at h ⊢
    exact ⟨h.1, by rw [h.2]⟩
  | n + 1 => Ext.bind (ext_many hd n) fun xs => Ext.bind hd fun x => Ext.done _

theorem ext_alarms : Ext decAl := by
  have : Ext fun l => bindR (decN 0 l) fun n r => decMany decA n r := Ext.bind (ext_num 0) fun n => ext_many (Ext.bind ext_small fun a => Ext.bind ext_small fun k => Ext.done _) n
  have e : (fun l => bindR (decN 0 l) fun n r => decMany decA n r) = decAl := funext fun l => (decAl_eq l).symm
  rw [e] at this; exact this

theorem ext_req : Ext decReq := Ext.bind (ext_num 0) fun _ => Ext.bind ext_text fun _ => Ext.bind ext_text fun _ => Ext.bind ext_small fun _ => Ext.done _
theorem ext_rep : Ext decRep := Ext.bind (ext_num 0) fun _ => Ext.bind ext_small fun _ => Ext.bind ext_small fun _ => Ext.bind ext_alarms fun _ => Ext.bind ext_text fun _ => Ext.bind ext_small fun _ => Ext.done _

/-- It is cut off. -/
theorem ED.cut {α : Type} {ok : α → Prop} [DecidablePred ok] {dec : List UInt8 → Option (α × List UInt8)} {b : List UInt8} {o : Option α} (h : ED dec b o) (he : Ext dec) {k : Nat} (hk : k < b.length) : whole ok (dec (b.take k)) = none := by
  cases e : dec (b.take k) with
  | none => rfl
  | some p =>
    obtain ⟨x, r⟩ := p
    cases r with
    | cons y r => rfl
    | nil =>
      have h1 := he _ _ _ (b.drop k) e
      rw [List.take_append_drop, List.nil_append] at h1
      have h2 := h []
      rw [List.append_nil, h1] at h2
      cases o with
      | none => cases h2
      | some y =>
        simp only [Option.map_some, Option.some.injEq, Prod.mk.injEq] at h2
        have := congrArg List.length h2.2
        simp at this; omega

theorem openReq_enc {r : Req} (h : ReqOk r) (hn : r.name.length ≤ 1000) (ht : r.text.length ≤ 1000) : openReq (encReq r) = if isI32 r.n ∧ 1 ≤ r.kind ∧ r.kind ≤ 7 then some r else none := by
  have hl := encReq_len h (c := 1000) (by decide) hn ht
  rw [openReq_short (by omega), (ed_req h (by omega) (by omega)).all (ok := reqOk)]
  by_cases hi : isI32 r.n
  · rw [if_pos hi]
    show (if reqOk _ then _ else _) = _
    by_cases hk : 1 ≤ r.kind ∧ r.kind ≤ 7
    · rw [if_pos (show reqOk _ from ⟨by simp only; omega, by simp only; omega⟩), if_pos ⟨hi, hk⟩]
      cases r
      simp only at hk
      simp only [Option.some.injEq, Req.mk.injEq, and_true]
      omega
    · rw [if_neg (fun hh : reqOk _ => hk ⟨by have := hh.1; simp only at this; omega, by have := hh.2; simp only at this; omega⟩), if_neg (fun hh => hk hh.2)]
  · rw [if_neg hi, if_neg (fun h => hi h.1)]; rfl

theorem openRep_enc {r : Rep} (h : RepOk r) (hn : r.alarms.length ≤ 1000) (ht : r.text.length ≤ 1000000) : openRep (encRep r) = if RepI32 r ∧ r.kind ≤ 5 then some ⟨r.kind.toNat, r.err, r.pos, r.alarms, r.text, r.n⟩ else none := by
  unfold openRep
  rw [(ed_rep h hn ht).all (ok := repOk)]
  by_cases hi : RepI32 r
  · rw [if_pos hi]
    show (if repOk _ then _ else _) = _
    by_cases hk : r.kind ≤ 5
    · rw [if_pos (show repOk _ from by unfold repOk; simp only; omega), if_pos ⟨hi, hk⟩]
    · rw [if_neg (fun hh : repOk _ => hk (by unfold repOk at hh; simp only at hh; omega)), if_neg (fun hh => hk hh.2)]
  · rw [if_neg hi, if_neg (fun h => hi h.1)]; rfl

/-- What was written is read back, but for a kind below 0. -/
theorem openRep_back {r s : Rep} (h : RepOk r) (hn : r.alarms.length ≤ 1000) (ht : r.text.length ≤ 1000000) (hs : openRep (encRep r) = some s) (hk : 0 ≤ r.kind) : s = r := by
  rw [openRep_enc h hn ht] at hs
  split at hs
  · simp only [Option.some.injEq] at hs
    subst hs
    cases r
    simp only at hk
    simp only [Rep.mk.injEq, and_true]
    omega
  · cases hs

end Go.Proofs.Ytipacoopapjdpaa

/- The examples of requests; what their laws ask: plain Lean. -/
namespace Go.Proofs.Ytipacoopapjdpaa
set_option linter.unusedVariables false
set_option linter.unusedSimpArgs false
open Go Go.RowKit SL

def kReq : Req := ⟨4, [102], [], 0⟩
def kRep : Rep := ⟨4, 0, 0, [⟨1, 2⟩], [], 0⟩

theorem kReq_ok : ReqOk kReq := by unfold ReqOk kReq isI64; simp
theorem kRep_ok : RepOk kRep := by
  unfold RepOk kRep isI64 AlmOk isI64
  simp
theorem kReq_bytes : encReq kReq = [4, 1, 102, 0, 0] := by
  simp [encReq, kReq, encText, encInt, zig, encNum_lt]
theorem kReq_open : openReq (encReq kReq) = some kReq := by
  rw [openReq_enc kReq_ok (by decide) (by decide), if_pos (by decide)]
theorem kRep_open : openRep (encRep kRep) = some kRep := by
  rw [openRep_enc kRep_ok (by decide) (by decide), if_pos (by refine ⟨⟨by decide, by decide, ?_, by decide⟩, by decide⟩; intro a ha; simp only [kRep, List.mem_singleton] at ha; subst ha; decide)]
  rfl
theorem open_nil : openReq [] = none := rfl

theorem openRep_small {b : List UInt8} : ((openRep b).getD noRep).alarms.length ≤ b.length := by
  unfold openRep
  cases e : decRep b with
  | none => exact Nat.zero_le _
  | some p =>
    obtain ⟨r, l⟩ := p
    cases l with
    | cons y l => exact Nat.zero_le _
    | nil =>
      show ((if repOk r then some r else none).getD noRep).alarms.length ≤ b.length
      split
      · obtain ⟨k, l1, h1, h⟩ := bindR_some e
        obtain ⟨e, l2, h2, h⟩ := bindR_some h
        obtain ⟨p, l3, h3, h⟩ := bindR_some h
        obtain ⟨al, l4, h4, h⟩ := bindR_some h
        obtain ⟨t, l5, h5, h⟩ := bindR_some h
        obtain ⟨n, l6, h6, h⟩ := bindR_some h
        simp only [Option.some.injEq, Prod.mk.injEq] at h
        rw [← h.1]
        have a1 := decN_len h1
        have a2 := (decS_len h2).1
        have a3 := (decS_len h3).1
        have a4 := (decAl_num h4).1
        show al.length ≤ _
        omega
      · exact Nat.zero_le _

def reqGood (r : Req) : Prop := isI32 r.n ∧ 1 ≤ r.kind ∧ r.kind ≤ 7
instance : DecidablePred reqGood := fun r => inferInstanceAs (Decidable (_ ∧ _ ∧ _))

theorem errOf_zero {α : Type} {o : Option α} : (errOf o == 0) = o.isSome := by cases o <;> rfl
theorem errOf_eight {α : Type} {o : Option α} (h : o = none) : (errOf o == 80) = true := by subst h; rfl

theorem reqGood_err {r : Req} (h : ReqOk r) (hn : r.name.length ≤ 1000) (ht : r.text.length ≤ 1000) : (decide (reqGood r) != (errOf (openReq (encReq r)) == 0)) = false := by
  rw [errOf_zero, openReq_enc h hn ht]
  by_cases hg : reqGood r
  · have hg' : isI32 r.n ∧ 1 ≤ r.kind ∧ r.kind ≤ 7 := hg
    rw [if_pos hg', decide_eq_true hg]; rfl
  · have hg' : ¬ (isI32 r.n ∧ 1 ≤ r.kind ∧ r.kind ≤ 7) := hg
    rw [if_neg hg', decide_eq_false hg]; rfl

theorem reqGood_same {r : Req} (h : ReqOk r) (hn : r.name.length ≤ 1000) (ht : r.text.length ≤ 1000) (hg : reqGood r) : (openReq (encReq r)).getD noReq = r := by
  have hg' : isI32 r.n ∧ 1 ≤ r.kind ∧ r.kind ≤ 7 := hg
  rw [openReq_enc h hn ht, if_pos hg']; rfl

theorem rep_same {p : Rep} (h : RepOk p) (hn : p.alarms.length ≤ 1000) (ht : p.text.length ≤ 1000000) (he : (errOf (openRep (encRep p)) != 0) = false) (hk : 0 ≤ p.kind) : (openRep (encRep p)).getD noRep = p := by
  cases e : openRep (encRep p) with
  | none => rw [e] at he; simp [errOf] at he
  | some s => exact openRep_back h hn ht e hk

theorem not_dec_true {p : Prop} [Decidable p] (h : p) : D.val (.bool (!(decide p))) = .val (.bool false) := by rw [decide_eq_true h]; rfl
theorem self_not_str (n : List UInt8) : D.val (.bool (!(n == n))) = .val (.bool false) := by rw [beq_self_eq_true]; rfl
theorem self_ne_i64 (n : Int) : D.val (.bool (n != n)) = .val (.bool false) := by rw [bne_self_eq_false]

end Go.Proofs.Ytipacoopapjdpaa

/- An argument that is a struct: plain Lean over the program logic. -/
namespace Go.Proofs.Ytipacoopapjdpaa
set_option linter.unusedVariables false
set_option linter.unusedSimpArgs false
open Go Go.RowKit SL

def bytesV (l : List UInt8) : V := .list (l.map byteV)

theorem u8_some (n : Int) : ∃ y : UInt8, D.val (.int .u8 (IntKind.u8.wrap n)) = .val (byteV y) := by
  refine ⟨UInt8.ofNat (n % 256).toNat, ?_⟩
  rw [wrap_u8_mod]
  have h : (UInt8.ofNat (n % 256).toNat).toNat = (n % 256).toNat := by simp; omega
  unfold byteV
  rw [h]
  congr 2; omega

theorem self_ne_errs {α : Type} (o : Option α) : D.val (.bool (errOf o != errOf o)) = .val (.bool false) := by rw [bne_self_eq_false]

theorem u8_of {x : Int} (h0 : 0 ≤ x) (h1 : x ≤ 255) : ∃ y : UInt8, D.val (.int .u8 x) = .val (byteV y) := by
  refine ⟨UInt8.ofNat x.toNat, ?_⟩
  have h : (UInt8.ofNat x.toNat).toNat = x.toNat := by simp; omega
  unfold byteV
  rw [h]
  congr 2; omega

theorem openReq_cut {r : Req} (h : ReqOk r) (hn : r.name.length ≤ 1000000) (ht : r.text.length ≤ 1000000) {k : Nat} (hk : k < (encReq r).length) : openReq ((encReq r).take k) = none := by
  unfold openReq
  split
  · rfl
  · exact (ed_req h hn ht).cut ext_req hk
theorem openReq_more {r : Req} (h : ReqOk r) (hn : r.name.length ≤ 1000000) (ht : r.text.length ≤ 1000000) (x : UInt8) : openReq (encReq r ++ [x]) = none := by
  unfold openReq
  split
  · rfl
  · exact (ed_req h hn ht).more x
theorem openRep_cut {r : Rep} (h : RepOk r) (hn : r.alarms.length ≤ 1000) (ht : r.text.length ≤ 1000000) {k : Nat} (hk : k < (encRep r).length) : openRep ((encRep r).take k) = none := (ed_rep h hn ht).cut ext_rep hk
theorem openRep_more {r : Rep} (h : RepOk r) (hn : r.alarms.length ≤ 1000) (ht : r.text.length ≤ 1000000) (x : UInt8) : openRep (encRep r ++ [x]) = none := (ed_rep h hn ht).more x

theorem tmod_abs {a : Int} {n : Nat} (hn : 0 < n) : (a.tmod (n : Int)).natAbs < n := by
  have h1 := Int.tmod_lt_of_pos a (b := (n : Int)) (by omega)
  have h3 : a.tmod n = -((-a).tmod n) := by rw [Int.neg_tmod, Int.neg_neg]
  have h4 := Int.tmod_lt_of_pos (-a) (b := (n : Int)) (by omega)
  omega

def greatReq (k : Nat) : Req := ⟨1, [], List.replicate k 0, 0⟩
theorem greatReq_ok (k : Nat) : ReqOk (greatReq k) := by unfold ReqOk greatReq isI64; simp
theorem great_open {k : Nat} (hk : k ≤ 100000) : D.val (.bool ((errOf (openReq (encReq (greatReq k))) == 0) == decide ((((encReq (greatReq k)).map byteV).length : Int) ≤ 8192))) = .val (.bool true) := by
  have h1 := (ed_req (greatReq_ok k) (by simp [greatReq]) (by simp [greatReq]; omega)).all (ok := reqOk)
  have h2 : whole reqOk (decReq (encReq (greatReq k))) = some (greatReq k) := h1
  rw [List.length_map, errOf_zero]
  by_cases h : (encReq (greatReq k)).length ≤ 8192
  · rw [openReq_short (by omega), h2, decide_eq_true (by omega)]; rfl
  · rw [openReq_long (by omega), decide_eq_false (by omega)]; rfl

theorem zero_rows (k : Nat) : List.replicate k [D.val (.int .u8 0)] = brows (List.replicate k 0) := by
  simp only [brows, List.map_replicate]; rfl

end Go.Proofs.Ytipacoopapjdpaa
