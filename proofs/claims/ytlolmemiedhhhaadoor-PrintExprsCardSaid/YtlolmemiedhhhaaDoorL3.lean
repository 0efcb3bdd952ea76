/- Merged: the program logic, plain laws and walks (each part's first row says what it is); no conditions of its own. -/
import Derived.Test.YtlolmemiedhhhaaDoorL2
import Derived.Lib.SlicesCompact
import Derived.Lib.Join
import Derived.Lib.ItoaNum
import Derived.Lib.ItoaLen
import Derived.Shelf.Strings.OnBuilder
import Derived.Test.YtlolmemiedhhhaaDoorProg
import Derived.Sort.Row
import Derived.Shelf.Strconv.Itoa4
import Derived.Lib.AppendIntMem

/- Numbers, texts and summaries as bytes: plain Lean, no program in sight. -/
namespace Go.Proofs.YtlolmemiedhhhaaDoor
set_option linter.unusedVariables false
set_option linter.unusedSimpArgs false
open Go Go.RowKit SL

def encNum (n : Nat) : List UInt8 := if h : n < 128 then [UInt8.ofNat n] else UInt8.ofNat (n % 128 + 128) :: encNum (n / 128)
termination_by n
decreasing_by omega

theorem encNum_lt {n : Nat} (h : n < 128) : encNum n = [UInt8.ofNat n] := by rw [encNum]; simp [h]
theorem encNum_ge {n : Nat} (h : 128 ≤ n) : encNum n = UInt8.ofNat (n % 128 + 128) :: encNum (n / 128) := by rw [encNum]; simp [show ¬ n < 128 by omega]

theorem encNum_len_pow : ∀ (k n : Nat), n < 128 ^ (k + 1) → (encNum n).length ≤ k + 1
  | 0, n, h => by rw [encNum_lt (by simpa using h)]; simp
  | k + 1, n, h => by
    by_cases h1 : n < 128
    · rw [encNum_lt h1]; simp
    · rw [encNum_ge (by omega)]
      have := encNum_len_pow k (n / 128) (by rw [Nat.div_lt_iff_lt_mul (by decide), ← Nat.pow_succ]; exact h)
      simp; exact this

theorem encNum_len {n : Nat} (h : n < 18446744073709551616) : (encNum n).length ≤ 10 := encNum_len_pow 9 n (Nat.lt_trans h (by decide))

theorem encNum_pos (n : Nat) : 0 < (encNum n).length := by
  by_cases h : n < 128
  · rw [encNum_lt h]; simp
  · rw [encNum_ge (by omega)]; simp

set_option maxRecDepth 4000 in
theorem or_128 : ∀ y : Fin 256, y.val ||| 128 = y.val % 128 + 128 := by decide

theorem wrap_u8_mod (n : Int) : IntKind.u8.wrap n = n % 256 := by
  rw [IntKind.wrap_u8]

theorem hi_byte (x : Nat) : V.int .u8 (IntKind.u8.wrap ((BitVec.ofInt 8 (IntKind.u8.wrap (x : Int)) ||| BitVec.ofInt 8 128).toNat : Int)) = byteV (UInt8.ofNat (x % 128 + 128)) := by
  have e : (BitVec.ofInt 8 (IntKind.u8.wrap (x : Int)) ||| BitVec.ofInt 8 128).toNat = x % 128 + 128 := by
    rw [BitVec.toNat_or, wrap_u8_mod]
    have h1 : (BitVec.ofInt 8 ((x : Int) % 256)).toNat = x % 256 := by
      rw [BitVec.toNat_ofInt]; omega
    have h2 : (BitVec.ofInt 8 128).toNat = 128 := by decide
    rw [h1, h2]
    have := or_128 ⟨x % 256, by omega⟩
    simp only at this
    rw [this]; omega
  unfold byteV
  rw [e, wrap_u8_mod]
  congr 1

theorem lo_byte (x : Nat) : V.int .u8 (IntKind.u8.wrap (x : Int)) = byteV (UInt8.ofNat x) := by
  unfold byteV
  rw [wrap_u8_mod]
  congr 1

theorem len_eq {a b : Nat} (h : a = b) : D.val (.int .i64 (a : Int)) = D.val (.int .i64 (b : Int)) := by rw [h]

theorem shr7 (x : Nat) : D.val (.int .u64 (Int.fdiv (x : Int) (2 ^ (min (7 : Int).toNat IntKind.u64.bits)))) = D.val (.int .u64 ((x / 128 : Nat) : Int)) := by
  have : min (7 : Int).toNat IntKind.u64.bits = 7 := by decide
  rw [this]
  have : Int.fdiv (x : Int) (2 ^ 7) = ((x / 128 : Nat) : Int) := by
    rw [Int.fdiv_eq_ediv_of_nonneg _ (by decide)]
    have : (2 : Int) ^ 7 = 128 := by decide
    rw [this]; omega
  rw [this]

def u64V (n : Nat) : V := .int .u64 n
def i64V (n : Int) : V := .int .i64 n
def strV (l : List UInt8) : V := .str l
def boolV (b : Bool) : V := .bool b

theorem take_snoc {α : Type} {l : List α} {k : Nat} (h : k < l.length) : l.take (k + 1) = l.take k ++ [l[k]] := by
  rw [List.take_succ_eq_append_getElem h]

theorem flat_take_len (ns : List Nat) (h : ∀ n ∈ ns, n < 18446744073709551616) (k : Nat) : ((ns.take k).flatMap encNum).length ≤ 10 * k := by
  induction k with
  | zero => simp
  | succ k ih =>
    by_cases hk : k < ns.length
    · rw [take_snoc hk, List.flatMap_append, List.length_append]
      have := encNum_len (h ns[k] (List.getElem_mem hk))
      simp only [List.flatMap_cons, List.flatMap_nil, List.append_nil]; omega
    · rw [List.take_of_length_le (by omega)] at ih ⊢
      omega

end Go.Proofs.YtlolmemiedhhhaaDoor

/- Numbers with signs, texts, truths as bytes, and back: plain Lean, no program in sight. -/
namespace Go.Proofs.YtlolmemiedhhhaaDoor
set_option linter.unusedVariables false
set_option linter.unusedSimpArgs false
open Go Go.RowKit SL

def zig (n : Int) : Nat := if n < 0 then (-(n + 1)).toNat * 2 + 1 else n.toNat * 2
def encInt (n : Int) : List UInt8 := encNum (zig n)
def encText (s : List UInt8) : List UInt8 := encNum s.length ++ s
def b01 (b : Bool) : Nat := if b then 1 else 0
def encBool (b : Bool) : List UInt8 := encNum (b01 b)

def isI64 (n : Int) : Prop := -9223372036854775808 ≤ n ∧ n ≤ 9223372036854775807

theorem zig_lt {n : Int} (h : isI64 n) : zig n < 18446744073709551616 := by
  unfold zig; unfold isI64 at h
  split <;> omega

theorem zig_inj {a b : Int} (h : zig a = zig b) : a = b := by
  unfold zig at h
  split at h <;> split at h <;> omega

/-- What a number's bytes tell, from the place i on; none: they can't be read. -/
def decN (i : Nat) : List UInt8 → Option (Nat × List UInt8)
  | [] => none
  | x :: l => if 9 < i ∨ (i = 9 ∧ 1 < x.toNat) then none
    else if x.toNat < 128 then (if x.toNat = 0 ∧ 0 < i then none else some (x.toNat, l))
    else match decN (i + 1) l with
      | none => none
      | some (v, r) => some (x.toNat - 128 + 128 * v, r)

theorem decN_enc_gen : ∀ (k i n : Nat) (l : List UInt8), i + k = 9 → n < 128 ^ k * 2 → (0 < i → 0 < n) → decN i (encNum n ++ l) = some (n, l)
  | 0, i, n, l, hi, hn, h0 => by
    have : n < 2 := by simpa using hn
    rw [encNum_lt (by omega)]
    have hx : (UInt8.ofNat n).toNat = n := by simp; omega
    simp only [List.cons_append, List.nil_append, decN, hx]
    rw [if_neg (by omega), if_pos (by omega), if_neg (by omega)]
  | k + 1, i, n, l, hi, hn, h0 => by
    by_cases h : n < 128
    · rw [encNum_lt h]
      have hx : (UInt8.ofNat n).toNat = n := by simp; omega
      simp only [List.cons_append, List.nil_append, decN, hx]
      rw [if_neg (by omega), if_pos (by omega), if_neg (by omega)]
    · rw [encNum_ge (by omega)]
      have hx : (UInt8.ofNat (n % 128 + 128)).toNat = n % 128 + 128 := by simp; omega
      have ih := decN_enc_gen k (i + 1) (n / 128) l (by omega) (by rw [Nat.div_lt_iff_lt_mul (by decide)]; rw [Nat.pow_succ] at hn; omega) (by omega)
      simp only [List.cons_append, decN, hx, ih]
      rw [if_neg (by omega), if_neg (by omega)]
      rw [show n % 128 + 128 - 128 + 128 * (n / 128) = n by omega]

theorem decN_enc {n : Nat} (h : n < 18446744073709551616) (l : List UInt8) : decN 0 (encNum n ++ l) = some (n, l) := decN_enc_gen 9 0 n l rfl h (by omega)

theorem decN_lt : ∀ (k i : Nat) (l : List UInt8) (v : Nat) (r : List UInt8), i + k = 9 → decN i l = some (v, r) → v < 128 ^ k * 2
  | 0, i, [], v, r, hi, h => by simp [decN] at h
  | 0, i, x :: l, v, r, hi, h => by
    simp only [decN] at h
    split at h
    · cases h
    · split at h
      · split at h
        · cases h
        · simp only [Option.some.injEq, Prod.mk.injEq] at h; simp; omega
      · split at h
        · cases h
        · rename_i h1 h2 _ _ _ h4
          exfalso
          have : 9 < i + 1 := by omega
          rename_i l' _ _
          cases l with
          | nil => simp [decN] at h4
          | cons y l => simp [decN, this] at h4
  | k + 1, i, [], v, r, hi, h => by simp [decN] at h
  | k + 1, i, x :: l, v, r, hi, h => by
    have hx := x.toNat_lt
    simp only [decN] at h
    split at h
    · cases h
    · split at h
      · split at h
        · cases h
        · simp only [Option.some.injEq, Prod.mk.injEq] at h
          have : 0 < 128 ^ k := Nat.pow_pos (by decide)
          rw [Nat.pow_succ]; omega
      · split at h
        · cases h
        · rename_i v' r' h4
          have ih := decN_lt k (i + 1) l v' r' (by omega) h4
          simp only [Option.some.injEq, Prod.mk.injEq] at h
          rw [Nat.pow_succ]; omega

theorem decN_lt64 {l : List UInt8} {v : Nat} {r : List UInt8} (h : decN 0 l = some (v, r)) : v < 18446744073709551616 := decN_lt 9 0 l v r rfl h

theorem decN_rest : ∀ (i : Nat) (l : List UInt8) (v : Nat) (r : List UInt8), decN i l = some (v, r) → ∃ p, l = p ++ r ∧ p ≠ []
  | i, [], v, r, h => by simp [decN] at h
  | i, x :: l, v, r, h => by
    simp only [decN] at h
    split at h
    · cases h
    · split at h
      · split at h
        · cases h
        · simp only [Option.some.injEq, Prod.mk.injEq] at h; exact ⟨[x], by simp [h.2], by simp⟩
      · split at h
        · cases h
        · rename_i v' r' h4
          obtain ⟨p, hp, _⟩ := decN_rest (i + 1) l v' r' h4
          simp only [Option.some.injEq, Prod.mk.injEq] at h
          exact ⟨x :: p, by rw [hp, h.2]; rfl, by simp⟩

def unzig (n : Nat) : Int := if n % 2 = 1 then -((n / 2 : Nat) : Int) - 1 else ((n / 2 : Nat) : Int)

theorem unzig_zig (n : Int) : unzig (zig n) = n := by
  unfold zig
  split <;> (unfold unzig; split <;> omega)

theorem unzig_i64 {n : Nat} (h : n < 18446744073709551616) : isI64 (unzig n) := by
  unfold unzig isI64
  split <;> omega

/-- A number with a sign, read. -/
def decI (l : List UInt8) : Option (Int × List UInt8) := (decN 0 l).map fun p => (unzig p.1, p.2)

theorem decI_enc {n : Int} (h : isI64 n) (l : List UInt8) : decI (encInt n ++ l) = some (n, l) := by
  unfold decI encInt
  rw [decN_enc (zig_lt h), Option.map_some, unzig_zig]

/-- A text, read. -/
def decT (l : List UInt8) : Option (List UInt8 × List UInt8) := match decN 0 l with
  | none => none
  | some (n, r) => if n ≤ r.length then some (r.take n, r.drop n) else none

theorem decT_enc {s : List UInt8} (h : s.length < 18446744073709551616) (l : List UInt8) : decT (encText s ++ l) = some (s, l) := by
  unfold decT encText
  rw [List.append_assoc, decN_enc h]
  simp

def decB : List UInt8 → Option (Bool × List UInt8)
  | [] => none
  | x :: l => if x.toNat ≤ 1 then some (x.toNat == 1, l) else none

theorem encBool_eq (b : Bool) : encBool b = [if b then 1 else 0] := by
  unfold encBool b01
  rw [encNum_lt (by split <;> omega)]
  cases b <;> rfl

theorem decB_enc (b : Bool) (l : List UInt8) : decB (encBool b ++ l) = some (b, l) := by
  rw [encBool_eq]
  cases b <;> rfl

end Go.Proofs.YtlolmemiedhhhaaDoor

/- What single operations make of bytes and numbers: plain Lean. -/
namespace Go.Proofs.YtlolmemiedhhhaaDoor
set_option linter.unusedVariables false
set_option linter.unusedSimpArgs false
open Go Go.RowKit SL

theorem flat_len {α : Type} {f : α → List UInt8} {c : Nat} {ns : List α} (h : ∀ n ∈ ns, (f n).length ≤ c) (k : Nat) : ((ns.take k).flatMap f).length ≤ c * k := by
  induction k with
  | zero => simp
  | succ k ih =>
    by_cases hk : k < ns.length
    · rw [take_snoc hk, List.flatMap_append, List.length_append]
      have := h ns[k] (List.getElem_mem hk)
      simp only [List.flatMap_cons, List.flatMap_nil, List.append_nil, Nat.mul_succ]; omega
    · rw [List.take_of_length_le (by omega)] at ih ⊢
      rw [Nat.mul_succ]; omega

theorem flat_snoc {α : Type} {f : α → List UInt8} {ns : List α} {k : Nat} (h : k < ns.length) (l : List UInt8) : l ++ (ns.take (k + 1)).flatMap f = l ++ (ns.take k).flatMap f ++ f ns[k] := by
  rw [take_snoc h, List.flatMap_append, List.append_assoc]; simp

theorem zig_bits {x : Int} (h : isI64 x) :
    V.int .u64 (IntKind.u64.wrap ((BitVec.ofInt IntKind.u64.bits (IntKind.u64.wrap (IntKind.u64.wrap x * 2 ^ (min (1 : Int).toNat IntKind.u64.bits))) ^^^
      BitVec.ofInt IntKind.u64.bits (IntKind.u64.wrap (x.fdiv (2 ^ (min (63 : Int).toNat IntKind.i64.bits))))).toNat : Int)) = u64V (zig x) := by
  have e1 : min (1 : Int).toNat IntKind.u64.bits = 1 := by decide
  have e2 : min (63 : Int).toNat IntKind.i64.bits = 63 := by decide
  have hw : ∀ z : Int, IntKind.u64.wrap z = z % 18446744073709551616 := fun z => by
    unfold IntKind.wrap; simp only [IntKind.bits, IntKind.signed, Bool.false_and, Bool.false_eq_true, if_false]; omega
  have h2 : (2 : Int) ^ 63 = 9223372036854775808 := by decide
  unfold isI64 at h
  rw [e1, e2, hw, hw, hw, hw, Int.fdiv_eq_ediv_of_nonneg _ (by decide), h2]
  unfold u64V zig
  have hb : IntKind.u64.bits = 64 := rfl
  rw [hb]
  congr 1
  by_cases hx : x < 0
  · rw [if_pos hx]
    have : x / 9223372036854775808 % 18446744073709551616 = 18446744073709551615 := by omega
    rw [this]
    have ha : (BitVec.ofInt 64 18446744073709551615) = BitVec.allOnes 64 := by decide
    rw [ha, BitVec.xor_allOnes, BitVec.toNat_not, BitVec.toNat_ofInt]
    omega
  · rw [if_neg hx]
    have : x / 9223372036854775808 % 18446744073709551616 = 0 := by omega
    rw [this]
    have ha : (BitVec.ofInt 64 0) = 0#64 := by decide
    rw [ha, BitVec.xor_zero, BitVec.toNat_ofInt]
    omega

theorem wrapped_u64 (x : Nat) (h : x < 18446744073709551616) : IntKind.u64.wrap (x : Int) = (x : Int) := wrap_u64 (by omega) (by omega)

theorem and_mask : ∀ y : Fin 256, (BitVec.ofInt 8 (y.val : Int) &&& ~~~ BitVec.ofInt 8 128).toNat = y.val % 128 := by
  set_option maxRecDepth 8000 in decide

theorem and_top : ∀ y : Fin 256, (((BitVec.ofInt 8 (y.val : Int) &&& BitVec.ofInt 8 128).toNat : Int) == 0) = decide (y.val < 128) := by
  set_option maxRecDepth 8000 in decide

theorem mask_byte (x : UInt8) : D.val (.int .u8 (IntKind.u8.wrap ((BitVec.ofInt IntKind.u8.bits (x.toNat : Int) &&& ~~~ BitVec.ofInt IntKind.u8.bits 128).toNat : Int))) = .val (.int .u8 ((x.toNat % 128 : Nat) : Int)) := by
  have h := and_mask ⟨x.toNat, x.toNat_lt⟩
  simp only at h
  show D.val (.int .u8 (IntKind.u8.wrap ((BitVec.ofInt 8 (x.toNat : Int) &&& ~~~ BitVec.ofInt 8 128).toNat : Int))) = _
  rw [h, wrap_u8 (by omega) (by omega)]

theorem top_byte (x : UInt8) : D.val (.bool (IntKind.u8.wrap ((BitVec.ofInt IntKind.u8.bits (x.toNat : Int) &&& BitVec.ofInt IntKind.u8.bits 128).toNat : Int) == 0)) = .val (.bool (decide (x.toNat < 128))) := by
  have h := and_top ⟨x.toNat, x.toNat_lt⟩
  simp only at h
  show D.val (.bool (IntKind.u8.wrap ((BitVec.ofInt 8 (x.toNat : Int) &&& BitVec.ofInt 8 128).toNat : Int) == 0)) = _
  have hlt : (BitVec.ofInt 8 (x.toNat : Int) &&& BitVec.ofInt 8 128).toNat < 256 := BitVec.isLt _
  rw [wrap_u8 (by omega) (by omega), h]

theorem shl_part {x i : Nat} (h : i < 9 ∧ x < 128 ∨ i = 9 ∧ x ≤ 1) :
    D.val (.int .u64 (IntKind.u64.wrap ((x : Int) * 2 ^ (min (((7 * i : Nat) : Int)).toNat IntKind.u64.bits)))) = .val (.int .u64 ((128 ^ i * x : Nat) : Int)) := by
  have e : min (((7 * i : Nat) : Int)).toNat IntKind.u64.bits = 7 * i := by
    show min _ 64 = _
    omega
  rw [e]
  have h1 : (x : Int) * 2 ^ (7 * i) = ((128 ^ i * x : Nat) : Int) := by
    have e3 : (128 : Nat) ^ i = 2 ^ (7 * i) := by rw [Nat.pow_mul]
    rw [e3, Int.mul_comm, Int.natCast_mul, Int.natCast_pow]; rfl
  have h2 : 128 ^ i * x < 18446744073709551616 := by
    rcases h with ⟨h, h'⟩ | ⟨rfl, h'⟩
    · have : 128 ^ i ≤ 128 ^ 8 := Nat.pow_le_pow_right (by decide) (by omega)
      have : 128 ^ i * x ≤ 128 ^ 8 * 127 := Nat.mul_le_mul this (by omega)
      have : (128 : Nat) ^ 8 * 127 < 18446744073709551616 := by decide
      omega
    · have : 128 ^ 9 * x ≤ 128 ^ 9 * 1 := Nat.mul_le_mul (Nat.le_refl _) h'
      have : (128 : Nat) ^ 9 * 1 < 18446744073709551616 := by decide
      omega
  rw [h1, wrapped_u64 _ h2]

theorem or_part {n x i : Nat} (hn : n < 128 ^ i) (h : i < 9 ∧ x < 128 ∨ i = 9 ∧ x ≤ 1) :
    D.val (.int .u64 (IntKind.u64.wrap ((BitVec.ofInt IntKind.u64.bits (n : Int) ||| BitVec.ofInt IntKind.u64.bits ((128 ^ i * x : Nat) : Int)).toNat : Int))) = .val (.int .u64 ((n + 128 ^ i * x : Nat) : Int)) := by
  have h2 : n + 128 ^ i * x < 18446744073709551616 := by
    rcases h with ⟨h, h'⟩ | ⟨rfl, h'⟩
    · have : 128 ^ i ≤ 128 ^ 8 := Nat.pow_le_pow_right (by decide) (by omega)
      have : 128 ^ i * x ≤ 128 ^ 8 * 127 := Nat.mul_le_mul this (by omega)
      have : (128 : Nat) ^ 8 * 127 + 128 ^ 8 < 18446744073709551616 := by decide
      omega
    · have : 128 ^ 9 * x ≤ 128 ^ 9 * 1 := Nat.mul_le_mul (Nat.le_refl _) h'
      have : (128 : Nat) ^ 9 * 1 + 128 ^ 9 ≤ 18446744073709551616 := by decide
      omega
  have hor : n ||| 128 ^ i * x = n + 128 ^ i * x := by
    have e : (128 : Nat) ^ i = 2 ^ (7 * i) := by rw [Nat.pow_mul]
    rw [e] at hn ⊢
    rw [Nat.or_comm, ← Nat.two_pow_add_eq_or_of_lt hn, Nat.add_comm]
  show D.val (.int .u64 (IntKind.u64.wrap ((BitVec.ofInt 64 (n : Int) ||| BitVec.ofInt 64 ((128 ^ i * x : Nat) : Int)).toNat : Int))) = _
  rw [BitVec.toNat_or, BitVec.toNat_ofInt, BitVec.toNat_ofInt]
  have e1 : (((n : Int) % ((2 ^ 64 : Nat) : Int))).toNat = n := by omega
  have e2 : ((((128 ^ i * x : Nat) : Int) % ((2 ^ 64 : Nat) : Int))).toNat = 128 ^ i * x := by omega
  rw [e1, e2, hor, wrapped_u64 _ h2]

theorem decN_last {i : Nat} {x : UInt8} {m : List UInt8} (h : i < 9 ∨ i = 9 ∧ x.toNat ≤ 1) (hx : x.toNat < 128) (h0 : x.toNat ≠ 0 ∨ i = 0) : decN i (x :: m) = some (x.toNat, m) := by
  simp only [decN]
  rw [if_neg (by omega), if_pos hx, if_neg (by omega)]
theorem decN_more {i : Nat} {x : UInt8} {m : List UInt8} (h : i < 9 ∨ i = 9 ∧ x.toNat ≤ 1) (hx : ¬ x.toNat < 128) : decN i (x :: m) = (decN (i + 1) m).map fun p => (x.toNat - 128 + 128 * p.1, p.2) := by
  simp only [decN]
  rw [if_neg (by omega), if_neg hx]
  cases decN (i + 1) m with
  | none => rfl
  | some p => rfl
theorem decN_nil (i : Nat) : decN i [] = none := rfl
theorem decN_long {i : Nat} {m : List UInt8} (h : ¬ i < 10) : decN i m = none := by
  cases m with
  | nil => rfl
  | cons x m => simp only [decN]; rw [if_pos (by omega)]
theorem decN_great {i : Nat} {x : UInt8} {m : List UInt8} (h : ¬ i < 9) (hx : ¬ x.toNat ≤ 1) : decN i (x :: m) = none := by
  simp only [decN]; rw [if_pos (by omega)]
theorem decN_nought {i : Nat} {x : UInt8} {m : List UInt8} (hx : x.toNat = 0) (h0 : i ≠ 0) : decN i (x :: m) = none := by
  simp only [decN]
  split
  · rfl
  · rw [if_pos (by omega), if_pos (by omega)]

theorem step_dec {i n : Nat} {x : UInt8} {m l : List UInt8} (hd : decN 0 l = (decN i (x :: m)).map fun p => (n + 128 ^ i * p.1, p.2)) (h : i < 9 ∨ i = 9 ∧ x.toNat ≤ 1) (hx : ¬ x.toNat < 128) :
    decN 0 l = (decN (i + 1) m).map fun p => (n + 128 ^ i * (x.toNat % 128) + 128 ^ (i + 1) * p.1, p.2) := by
  rw [hd, decN_more h hx, Option.map_map]
  congr 1
  funext p
  have : x.toNat - 128 = x.toNat % 128 := by have := x.toNat_lt; omega
  simp only [Function.comp, Prod.mk.injEq, and_true]
  rw [this, Nat.mul_add, Nat.pow_succ, Nat.mul_assoc, Nat.add_assoc]

theorem step_lt {i n x : Nat} (h : n < 128 ^ i) (hx : x < 128) : n + 128 ^ i * x < 128 ^ (i + 1) := by
  have : 128 ^ i * x ≤ 128 ^ i * 127 := Nat.mul_le_mul (Nat.le_refl _) (by omega)
  rw [Nat.pow_succ]; omega

end Go.Proofs.YtlolmemiedhhhaaDoor

/- A reader's state, as pure data; what reading does to it. -/
namespace Go.Proofs.YtlolmemiedhhhaaDoor
set_option linter.unusedVariables false
set_option linter.unusedSimpArgs false
open Go Go.RowKit SL

@[reducible] def rd (q : Nat) (l : List UInt8) (f : Bool) : Chunk := .blk q [.val (.list (l.map byteV)), .val (.bool f)]

theorem start_dec (l : List UInt8) : decN 0 l = (decN 0 l).map fun p => (0 + 128 ^ 0 * p.1, p.2) := by
  cases decN 0 l with
  | none => rfl
  | some p => simp

theorem len_pos_false {m : List UInt8} (h : decide ((((m.map byteV).length : Nat) : Int) > 0) = false) : m = [] := by
  cases m with
  | nil => rfl
  | cons x m =>
    have := of_decide_eq_false h
    simp only [List.length_map, List.length_cons] at this
    omega

theorem len_pos_true {m : List UInt8} (h : decide ((((m.map byteV).length : Nat) : Int) > 0) = true) : ∃ x m', m = x :: m' := by
  cases m with
  | nil => simp at h
  | cons x m => exact ⟨x, m, rfl⟩

theorem fin_dec {i n : Nat} {x : UInt8} {m l : List UInt8} (hd : decN 0 l = (decN i (x :: m)).map fun p => (n + 128 ^ i * p.1, p.2)) (h : decN i (x :: m) = some (x.toNat, m)) (hx : x.toNat < 128) :
    decN 0 l = some (n + 128 ^ i * (x.toNat % 128), m) := by rw [hd, h, Nat.mod_eq_of_lt hx]; rfl

theorem drop_one (x : UInt8) (m : List UInt8) : D.val (.list ((((x :: m).map byteV).drop 1).take (((x :: m).map byteV).length - 1))) = .val (.list (m.map byteV)) := by
  rw [List.take_of_length_le (by simp)]; rfl

/-- How a reader stands: what is left; none: it has failed. -/
def Rdr (q : Nat) : Option (List UInt8) → Chunk → Prop
  | some l, c => c = rd q l false ∧ l.length ≤ 100000000
  | none, c => ∃ r, c = rd q r true

def after {α : Type} (z : α) : Option (α × List UInt8) → α × Option (List UInt8)
  | some (n, r) => (n, some r)
  | none => (z, none)
def rdOf {α : Type} (dec : List UInt8 → Option (α × List UInt8)) (z : α) : Option (List UInt8) → α × Option (List UInt8)
  | some l => after z (dec l)
  | none => (z, none)

theorem rdOf_good {α : Type} {dec : List UInt8 → Option (α × List UInt8)} {z v : α} {l r : List UInt8} (h : dec l = some (v, r)) : rdOf dec z (some l) = (v, some r) := by
  simp only [rdOf, h, after]
theorem rdOf_bad {α : Type} {dec : List UInt8 → Option (α × List UInt8)} {z : α} {l : List UInt8} (h : dec l = none) : rdOf dec z (some l) = (z, none) := by
  simp only [rdOf, h, after]

def GoodR {α : Type} (res : Option (α × List UInt8)) (mk : α → V) (x : D) (xs : List D) : Prop := ∃ v r, res = some (v, r) ∧ x = .val (.list (r.map byteV)) ∧ xs = [.val (mk v)]
def BadR {α : Type} (res : Option (α × List UInt8)) (x : D) : Prop := res = none ∧ ∃ r : List UInt8, x = .val (.list (r.map byteV))

theorem decN_len {l : List UInt8} {v : Nat} {r : List UInt8} (h : decN 0 l = some (v, r)) : r.length ≤ l.length := by
  obtain ⟨p, rfl, _⟩ := decN_rest 0 l v r h
  simp
theorem decI_len {l : List UInt8} {v : Int} {r : List UInt8} (h : decI l = some (v, r)) : r.length ≤ l.length := by
  unfold decI at h
  cases e : decN 0 l with
  | none => rw [e] at h; cases h
  | some p =>
    rw [e] at h
    simp only [Option.map_some, Option.some.injEq, Prod.mk.injEq] at h
    rw [← h.2]; exact decN_len (v := p.1) (by rw [e])
theorem decT_len {l : List UInt8} {v : List UInt8} {r : List UInt8} (h : decT l = some (v, r)) : r.length ≤ l.length := by
  unfold decT at h
  cases e : decN 0 l with
  | none => rw [e] at h; cases h
  | some p =>
    rw [e] at h
    have := decN_len (v := p.1) (r := p.2) (by rw [e])
    simp only at h
    split at h
    · simp only [Option.some.injEq, Prod.mk.injEq] at h
      rw [← h.2, List.length_drop]; omega
    · cases h
theorem decB_len {l : List UInt8} {v : Bool} {r : List UInt8} (h : decB l = some (v, r)) : r.length ≤ l.length := by
  cases l with
  | nil => cases h
  | cons x l =>
    simp only [decB] at h
    split at h
    · simp only [Option.some.injEq, Prod.mk.injEq] at h
      rw [← h.2]; simp
    · cases h

theorem len_u64 {r : List UInt8} (h : r.length ≤ 100000000) : D.val (.int .u64 (IntKind.u64.wrap ((r.map byteV).length : Int))) = .val (.int .u64 (r.length : Int)) := by
  rw [List.length_map, wrapped_u64 _ (by omega)]
theorem take_bytes (r : List UInt8) (n : Nat) : D.val (.list (((r.map byteV).drop 0).take (n - 0))) = .val (.list ((r.take n).map byteV)) := by
  rw [List.map_take]; rfl
theorem drop_bytes (r : List UInt8) (n : Nat) : D.val (.list (((r.map byteV).drop n).take ((r.map byteV).length - n))) = .val (.list ((r.drop n).map byteV)) := by
  rw [List.map_drop, List.take_of_length_le (by simp)]
theorem is_one (x : UInt8) : D.val (.bool ((x.toNat : Int) == 1)) = .val (boolV (x.toNat == 1)) := by
  unfold boolV
  have := x.toNat_lt
  by_cases h : x.toNat = 1
  · rw [h]; rfl
  · have h1 : ((x.toNat : Int) == 1) = false := by simp; omega
    have h2 : (x.toNat == 1) = false := by simp [h]
    rw [h1, h2]

def doneV : Option (List UInt8) → Int
  | some [] => 0
  | _ => 20

theorem unzig_bits {n : Nat} (h : n < 18446744073709551616) :
    D.val (.int .i64 (IntKind.i64.wrap ((BitVec.ofInt IntKind.i64.bits (IntKind.i64.wrap ((n : Int).fdiv (2 ^ (min (1 : Int).toNat IntKind.u64.bits)))) ^^^
      BitVec.ofInt IntKind.i64.bits (IntKind.i64.wrap (0 - IntKind.i64.wrap (IntKind.u64.wrap ((BitVec.ofInt IntKind.u64.bits (n : Int) &&& BitVec.ofInt IntKind.u64.bits 1).toNat : Int))))).toNat : Int))) = .val (i64V (unzig n)) := by
  have e1 : min (1 : Int).toNat IntKind.u64.bits = 1 := by decide
  have h1 : (BitVec.ofInt IntKind.u64.bits (n : Int) &&& BitVec.ofInt IntKind.u64.bits 1).toNat = n % 2 := by
    show (BitVec.ofInt 64 (n : Int) &&& BitVec.ofInt 64 1).toNat = n % 2
    have h2 : (BitVec.ofInt 64 1).toNat = 1 := by decide
    rw [BitVec.toNat_and, h2, BitVec.toNat_ofInt]
    have : ((n : Int) % ((2 ^ 64 : Nat) : Int)).toNat = n := by omega
    rw [this, Nat.and_one_is_mod]
  rw [e1, h1, Int.fdiv_eq_ediv_of_nonneg _ (by decide), wrapped_u64 _ (by omega)]
  have h3 : ((n : Int) / 2 ^ 1) = ((n / 2 : Nat) : Int) := by omega
  rw [h3, wrap_i64 (n := ((n / 2 : Nat) : Int)) (by omega) (by omega), wrap_i64 (n := ((n % 2 : Nat) : Int)) (by omega) (by omega)]
  unfold i64V unzig
  have hb : IntKind.i64.bits = 64 := rfl
  rw [hb]
  by_cases hn : n % 2 = 1
  · rw [if_pos hn, hn]
    rw [wrap_i64 (n := 0 - ((1 : Nat) : Int)) (by omega) (by omega)]
    have ha : (BitVec.ofInt 64 (0 - ((1 : Nat) : Int))) = BitVec.allOnes 64 := by decide
    rw [ha, BitVec.xor_allOnes, BitVec.toNat_not, BitVec.toNat_ofInt]
    have e : (((2 ^ 64 - 1 - (((n / 2 : Nat) : Int) % ((2 ^ 64 : Nat) : Int)).toNat : Nat)) : Int) = 18446744073709551615 - ((n / 2 : Nat) : Int) := by omega
    rw [e]
    congr 2
    unfold IntKind.wrap
    have e1 : (2 : Int) ^ IntKind.i64.bits = 18446744073709551616 := by decide
    have e2 : (2 : Int) ^ (IntKind.i64.bits - 1) = 9223372036854775808 := by decide
    rw [e1, e2]
    have : (IntKind.i64.signed && decide ((18446744073709551615 - ((n / 2 : Nat) : Int)) % 18446744073709551616 ≥ 9223372036854775808)) = true := by simp [IntKind.signed]; omega
    simp only [this, if_true]; omega
  · rw [if_neg hn, show n % 2 = 0 by omega]
    rw [wrap_i64 (n := 0 - ((0 : Nat) : Int)) (by omega) (by omega)]
    have ha : (BitVec.ofInt 64 (0 - ((0 : Nat) : Int))) = 0#64 := by decide
    rw [ha, BitVec.xor_zero, BitVec.toNat_ofInt]
    have e : ((((((n / 2 : Nat) : Int) % ((2 ^ 64 : Nat) : Int)).toNat : Nat)) : Int) = ((n / 2 : Nat) : Int) := by omega
    rw [e, wrap_i64 (by omega) (by omega)]

end Go.Proofs.YtlolmemiedhhhaaDoor

/- Lists of numbers, texts and truths ads a statement's arguments; small facts of lists. -/
namespace Go.Proofs.YtlolmemiedhhhaaDoor
set_option linter.unusedVariables false
set_option linter.unusedSimpArgs false
open Go Go.RowKit SL

theorem all_take_snoc {α : Type} {F : α → Prop} {l : List α} {k : Nat} (h : ∀ s ∈ l.take k, F s) (hk : k < l.length) (hF : F l[k]) : ∀ s ∈ l.take (k + 1), F s := fun s hs => by
  rw [take_snoc hk] at hs
  rcases List.mem_append.mp hs with hs | hs
  · exact h s hs
  · rw [List.mem_singleton.mp hs]; exact hF

theorem choose_all {α : Type} {f : α → V} {F : α → Prop} : ∀ (ys : List V), (∀ y ∈ ys, ∃ a, y = f a ∧ F a) → ∃ ads : List α, ys = ads.map f ∧ ∀ a ∈ ads, F a
  | [], _ => ⟨[], rfl, fun a h => absurd h (by simp)⟩
  | y :: ys, h => by
    obtain ⟨a, rfl, ha⟩ := h y (by simp)
    obtain ⟨ads, rfl, hs⟩ := choose_all ys fun y hy => h y (by simp [hy])
    exact ⟨a :: ads, rfl, fun b hb => by
      rcases List.mem_cons.mp hb with rfl | hb
      · exact ha
      · exact hs b hb⟩

/-- What covers a list's elements covers the list. -/
theorem cov_list {P : Program} {t e : TypeId} {sz : Nat} {α : Type} (f : α → V) {F : α → Prop} (mk : List V → V) (hmk : ∀ a, mk (f a).cells = f a) (ht : P.underlying t = some (.slice e)) (hc : P.cellsOf e = sz) (hsz : 0 < sz)
    (he : ∀ n, Covers P n e fun xs => ∃ a, xs = (f a).cells ∧ F a) : ∀ n, Covers P n t fun xs => ∃ ads : List α, xs = [.list (ads.map f)] ∧ (∀ a ∈ ads, F a) ∧ ads.length ≤ maxLen := fun n => by
  cases n with
  | zero => exact covers_zero
  | succ n =>
    refine (covers_slice mk ht hc hsz (he n) (fun xs h => by obtain ⟨a, rfl, _⟩ := h; rw [hmk])).mono fun xs h => ?_
    obtain ⟨ys, rfl, h1, h2⟩ := h
    obtain ⟨ads, rfl, h3⟩ := choose_all (f := f) (F := F) ys fun y hy => by
      obtain ⟨zs, ⟨a, rfl, ha⟩, rfl⟩ := h1 y hy
      exact ⟨a, hmk a, ha⟩
    exact ⟨ads, rfl, h3, by simpa using h2⟩

def hd1 (xs : List V) : V := xs.headD .nil

theorem cov_u64 {P : Program} {e : TypeId} (he : P.underlying e = some (.int .u64)) (n : Nat) : Covers P n e fun xs => ∃ a : Nat, xs = (u64V a).cells ∧ a < 18446744073709551616 :=
  (covers_int he).mono fun xs h => by
    obtain ⟨i, rfl, h1, h2⟩ := h
    have h1 : 0 ≤ i := h1
    have h2 : i ≤ 18446744073709551615 := h2
    exact ⟨i.toNat, by simp only [u64V, V.cells]; rw [show ((i.toNat : Nat) : Int) = i by omega], by omega⟩

theorem cov_i64 {P : Program} {e : TypeId} (he : P.underlying e = some (.int .i64)) (n : Nat) : Covers P n e fun xs => ∃ a : Int, xs = (i64V a).cells ∧ isI64 a :=
  (covers_int he).mono fun xs h => by
    obtain ⟨i, rfl, h1, h2⟩ := h
    exact ⟨i, rfl, h1, h2⟩

theorem cov_str {P : Program} {e : TypeId} (he : P.underlying e = some .string) (n : Nat) : Covers P n e fun xs => ∃ a : List UInt8, xs = (strV a).cells ∧ a.length ≤ maxLen :=
  (covers_str he).mono fun xs h => by
    obtain ⟨l, rfl, h⟩ := h
    exact ⟨l, rfl, h⟩

theorem cov_bool {P : Program} {e : TypeId} (he : P.underlying e = some .bool) (n : Nat) : Covers P n e fun xs => ∃ a : Bool, xs = (boolV a).cells ∧ True :=
  (covers_bool he).mono fun xs h => by
    obtain ⟨b, rfl⟩ := h
    exact ⟨b, rfl, trivial⟩

theorem cov_u8 {P : Program} {e : TypeId} (he : P.underlying e = some (.int .u8)) (n : Nat) : Covers P n e fun xs => ∃ a : UInt8, xs = (byteV a).cells ∧ True :=
  (covers_int he).mono fun xs h => by
    obtain ⟨i, rfl, h1, h2⟩ := h
    have h1 : 0 ≤ i := h1
    have h2 : i ≤ 255 := h2
    refine ⟨UInt8.ofNat i.toNat, ?_, trivial⟩
    simp only [byteV, V.cells]
    have : ((UInt8.ofNat i.toNat).toNat : Int) = i := by simp; omega
    rw [this]

theorem cov_u64s {P : Program} {t e : TypeId} (ht : P.underlying t = some (.slice e)) (he : P.underlying e = some (.int .u64)) (hc : P.cellsOf e = 1) : ∀ n, Covers P n t fun xs => ∃ ads : List (Nat), xs = [.list (ads.map u64V)] ∧ (∀ a ∈ ads, a < 18446744073709551616) ∧ ads.length ≤ maxLen := cov_list u64V hd1 (fun _ => rfl) ht hc (by decide) (cov_u64 he)
theorem cov_i64s {P : Program} {t e : TypeId} (ht : P.underlying t = some (.slice e)) (he : P.underlying e = some (.int .i64)) (hc : P.cellsOf e = 1) : ∀ n, Covers P n t fun xs => ∃ ads : List (Int), xs = [.list (ads.map i64V)] ∧ (∀ a ∈ ads, isI64 a) ∧ ads.length ≤ maxLen := cov_list i64V hd1 (fun _ => rfl) ht hc (by decide) (cov_i64 he)
theorem cov_strs {P : Program} {t e : TypeId} (ht : P.underlying t = some (.slice e)) (he : P.underlying e = some .string) (hc : P.cellsOf e = 1) : ∀ n, Covers P n t fun xs => ∃ ads : List (List UInt8), xs = [.list (ads.map strV)] ∧ (∀ a ∈ ads, a.length ≤ maxLen) ∧ ads.length ≤ maxLen := cov_list strV hd1 (fun _ => rfl) ht hc (by decide) (cov_str he)
theorem cov_bools {P : Program} {t e : TypeId} (ht : P.underlying t = some (.slice e)) (he : P.underlying e = some .bool) (hc : P.cellsOf e = 1) : ∀ n, Covers P n t fun xs => ∃ ads : List (Bool), xs = [.list (ads.map boolV)] ∧ (∀ a ∈ ads, True) ∧ ads.length ≤ maxLen := cov_list boolV hd1 (fun _ => rfl) ht hc (by decide) (cov_bool he)
theorem cov_bytes {P : Program} {t e : TypeId} (ht : P.underlying t = some (.slice e)) (he : P.underlying e = some (.int .u8)) (hc : P.cellsOf e = 1) : ∀ n, Covers P n t fun xs => ∃ ads : List (UInt8), xs = [.list (ads.map byteV)] ∧ (∀ a ∈ ads, True) ∧ ads.length ≤ maxLen := cov_list byteV hd1 (fun _ => rfl) ht hc (by decide) (cov_u8 he)

/-- A list ads a statement's argument. -/
theorem arg_struct {P : Program} {t : TypeId} {α : Type} {f : α → V} {F : α → Prop} (hc : ∀ n, Covers P n t fun xs => ∃ a : α, xs = (f a).cells ∧ F a) (hf : ∀ a, f a = .agg (f a).cells)
    {H : Type} {enc : TypeId × Value → H} {W : World} {sp : Nat → Bool} {held : Bool} {v : Value} {d : DataW H} {ps : List MemPlace} (h : DataW.Trod enc P W 0 sp held t v d ps) (hv : ∃ cs, v = .agg cs) : ∃ a, F a ∧ RepV (memC W) v (f a) := by
  obtain ⟨xs, ⟨a, rfl, ha⟩, hr⟩ := covers_argn hc h hv
  exact ⟨a, ha, by rw [hf a]; exact hr⟩

theorem arg_list {P : Program} {t : TypeId} {α : Type} {f : α → V} {F : α → Prop} (hc : ∀ n, Covers P n t fun xs => ∃ ads : List α, xs = [.list (ads.map f)] ∧ (∀ a ∈ ads, F a) ∧ ads.length ≤ maxLen)
    {H : Type} {enc : TypeId × Value → H} {W : World} {sp : Nat → Bool} {held : Bool} {v : Value} {d : DataW H} {ps : List MemPlace} (h : DataW.Trod enc P W 0 sp held t v d ps) (hv : ∀ cs, v ≠ .agg cs) :
    ∃ ads : List α, ((∀ a ∈ ads, F a) ∧ ads.length ≤ maxLen) ∧ RepV (memC W) v (.list (ads.map f)) := by
  obtain ⟨xs, ⟨ads, rfl, h1, h2⟩, h3⟩ := covers_arg1 hc h hv
  exact ⟨ads, ⟨h1, h2⟩, h3 _ rfl⟩

end Go.Proofs.YtlolmemiedhhhaaDoor

/- Texts that are cut off anywhere, read one by one: plain Lean. -/
namespace Go.Proofs.YtlolmemiedhhhaaDoor
set_option linter.unusedVariables false
set_option linter.unusedSimpArgs false
open Go Go.RowKit SL

theorem decN_cut : ∀ (n i j : Nat), j < (encNum n).length → decN i ((encNum n).take j) = none := by
  intro n
  induction n using Nat.strongRecOn with
  | _ n ih =>
    intro i j hj
    cases j with
    | zero => simp [decN]
    | succ j =>
      by_cases h : n < 128
      · rw [encNum_lt h] at hj; simp at hj
      · rw [encNum_ge (by omega)] at hj ⊢
        rw [List.take_succ_cons]
        have hx : (UInt8.ofNat (n % 128 + 128)).toNat = n % 128 + 128 := by simp; omega
        have h2 := ih (n / 128) (by omega) (i + 1) j (by simpa using hj)
        simp only [decN, hx, h2]
        split
        · rfl
        · rw [if_neg (by omega)]

theorem decT_cut {s : List UInt8} {j : Nat} (hs : s.length < 18446744073709551616) (hj : j < (encText s).length) : decT ((encText s).take j) = none := by
  unfold decT
  unfold encText at hj ⊢
  rw [List.length_append] at hj
  by_cases h : j < (encNum s.length).length
  · rw [List.take_append_of_le_length (by omega), decN_cut _ _ _ h]
  · rw [List.take_append, List.take_of_length_le (by omega), decN_enc hs]
    simp only [List.length_take]
    rw [if_neg (by omega)]

def cutE (ss : List (List UInt8)) (i : Nat) : Nat := ((ss.take i).flatMap encText).length
def endsOf (ss : List (List UInt8)) (k : Nat) : List Int := (List.range k).map fun i => ((cutE ss (i + 1) : Nat) : Int)

theorem endsOf_succ (ss : List (List UInt8)) (k : Nat) : endsOf ss (k + 1) = endsOf ss k ++ [((cutE ss (k + 1) : Nat) : Int)] := by
  unfold endsOf; rw [List.range_succ, List.map_append]; rfl

theorem endsOf_len (ss : List (List UInt8)) (k : Nat) : (endsOf ss k).length = k := by simp [endsOf]

theorem ends_get {ss : List (List UInt8)} {i n : Nat} (h : i < n) : ((endsOf ss n).map i64V)[((i : Nat) : Int).toNat]? = some (i64V (cutE ss (i + 1) : Nat)) := by
  have : ((i : Nat) : Int).toNat = i := by omega
  rw [this, List.getElem?_map]
  unfold endsOf
  rw [List.getElem?_map, List.getElem?_range h]; rfl

theorem cutE_succ {ss : List (List UInt8)} {i : Nat} (h : i < ss.length) : cutE ss (i + 1) = cutE ss i + (encText ss[i]).length := by
  unfold cutE
  rw [take_snoc h, List.flatMap_append, List.length_append]; simp

theorem cutE_all (ss : List (List UInt8)) : cutE ss ss.length = (ss.flatMap encText).length := by
  unfold cutE; rw [List.take_length]

def stCut (ss : List (List UInt8)) (k i : Nat) : Option (List UInt8) := if cutE ss i ≤ k then some (((ss.flatMap encText).take k).drop (cutE ss i)) else none

theorem stCut_zero (ss : List (List UInt8)) (k : Nat) : stCut ss k 0 = some ((ss.flatMap encText).take k) := by
  unfold stCut cutE; simp

theorem stCut_end {ss : List (List UInt8)} {k : Nat} (h : k < (ss.flatMap encText).length) : stCut ss k ss.length = none := by
  unfold stCut; rw [cutE_all, if_neg (by omega)]

theorem cut_step {ss : List (List UInt8)} {k i : Nat} (h : i < ss.length) (hs : ss[i].length < 18446744073709551616) :
    rdOf decT ([] : List UInt8) (stCut ss k i) = (if cutE ss (i + 1) ≤ k then ss[i] else [], stCut ss k (i + 1)) := by
  have hfull : ss.flatMap encText = (ss.take i).flatMap encText ++ (encText ss[i] ++ (ss.drop (i + 1)).flatMap encText) := by
    rw [show ss.flatMap encText = (ss.take i ++ ss.drop i).flatMap encText by rw [List.take_append_drop], List.flatMap_append, List.drop_eq_getElem_cons h, List.flatMap_cons]
  have hE := cutE_succ h
  unfold stCut
  by_cases h1 : cutE ss i ≤ k
  · rw [if_pos h1]
    have hd : ∀ e, cutE ss i ≤ e → ((ss.flatMap encText).take k).drop e = ((encText ss[i] ++ (ss.drop (i + 1)).flatMap encText).take (k - cutE ss i)).drop (e - cutE ss i) := fun e he => by
      rw [hfull, List.drop_take, List.drop_take, List.drop_append, List.drop_of_length_le (show (((ss.take i).flatMap encText).length ≤ e) from he), List.nil_append,
        show e - ((ss.take i).flatMap encText).length = e - cutE ss i from rfl, show k - e = k - cutE ss i - (e - cutE ss i) by omega]
    rw [hd _ (Nat.le_refl _), Nat.sub_self, List.drop_zero]
    by_cases h2 : cutE ss (i + 1) ≤ k
    · rw [if_pos h2, if_pos h2, hd _ (by omega)]
      have e1 : (encText ss[i] ++ (ss.drop (i + 1)).flatMap encText).take (k - cutE ss i) = encText ss[i] ++ ((ss.drop (i + 1)).flatMap encText).take (k - cutE ss i - (encText ss[i]).length) := by
        rw [List.take_append, List.take_of_length_le (by omega)]
      rw [e1, rdOf_good (decT_enc hs _)]
      have e2 : cutE ss (i + 1) - cutE ss i = (encText ss[i]).length := by omega
      rw [e2, List.drop_left]
    · rw [if_neg h2, if_neg h2]
      have e1 : (encText ss[i] ++ (ss.drop (i + 1)).flatMap encText).take (k - cutE ss i) = (encText ss[i]).take (k - cutE ss i) := by
        rw [List.take_append_of_le_length (by omega)]
      rw [e1, rdOf_bad (decT_cut hs (by omega))]
  · rw [if_neg h1, if_neg (by omega), if_neg (by omega)]
    rfl

theorem encText_pos (s : List UInt8) : 0 < (encText s).length := by
  have := encNum_pos s.length
  unfold encText; rw [List.length_append]; omega

theorem full_pos {ss : List (List UInt8)} (h : 0 < ss.length) : 0 < (ss.flatMap encText).length := by
  cases ss with
  | nil => simp at h
  | cons s ss =>
    have := encText_pos s
    simp only [List.flatMap_cons, List.length_append]; omega

theorem place_neg {a n : Int} (hn : 0 < n) (h : a.tmod n < 0) : a.tmod n + n = a % n := by
  have h1 : a.tmod n + n * a.tdiv n = a := Int.tmod_add_mul_tdiv a n
  have h2 : -n < a.tmod n := by
    have h3 : a.tmod n = -((-a).tmod n) := by rw [Int.neg_tmod, Int.neg_neg]
    have h4 := Int.tmod_lt_of_pos (-a) hn
    omega
  have h5 : a % n = (a.tmod n + n) % n := by
    rw [Int.add_emod_right]
    conv => lhs; rw [← h1]
    rw [Int.add_mul_emod_self_left]
  rw [h5, Int.emod_eq_of_lt (by omega) (by omega)]

theorem place_pos {a n : Int} (hn : 0 < n) (h : ¬ a.tmod n < 0) : a.tmod n = a % n := by
  by_cases ha : a < 0
  · have h2 : a.tmod n = -((-a).tmod n) := by rw [Int.neg_tmod, Int.neg_neg]
    have h3 : (-a).tmod n = (-a) % n := Int.tmod_eq_emod_of_nonneg (by omega)
    have h4 := Int.emod_nonneg (-a) (show n ≠ 0 by omega)
    rw [h2, h3] at h
    have h5 : (-a) % n = 0 := by omega
    rw [h2, h3, h5]
    have : n ∣ -a := Int.dvd_of_emod_eq_zero h5
    have : n ∣ a := Int.dvd_neg.mp this
    rw [Int.emod_eq_zero_of_dvd this]; rfl
  · exact Int.tmod_eq_emod_of_nonneg (by omega)

end Go.Proofs.YtlolmemiedhhhaaDoor

/- Intervals, alarms, names, summaries and parts as data and as bytes: plain Lean. -/
namespace Go.Proofs.YtlolmemiedhhhaaDoor
set_option linter.unusedVariables false
set_option linter.unusedSimpArgs false
open Go Go.RowKit SL

structure Ivl where
  some : Bool
  lo : Int
  hi : Int
structure Alm where
  pos : Int
  kind : Int
structure Nmd where
  name : List UInt8
  v : Ivl
structure Smy where
  alarms : List Alm
  ends : Bool
  ret : Ivl
  mod : List Nmd
structure Prt where
  what : UInt8
  n : Nat
  t : List UInt8
  s : Smy

def ivlV (v : Ivl) : V := .agg [.bool v.some, .int .i64 v.lo, .int .i64 v.hi]
def almV (a : Alm) : V := .agg [.int .i64 a.pos, .int .i64 a.kind]
def nmdV (m : Nmd) : V := .agg [.str m.name, .bool m.v.some, .int .i64 m.v.lo, .int .i64 m.v.hi]
def smyV (s : Smy) : V := .agg [.list (s.alarms.map almV), .bool s.ends, .bool s.ret.some, .int .i64 s.ret.lo, .int .i64 s.ret.hi, .list (s.mod.map nmdV)]
def prtV (p : Prt) : V := .agg [.int .u8 p.what.toNat, .int .u64 p.n, .str p.t, .list (p.s.alarms.map almV), .bool p.s.ends, .bool p.s.ret.some, .int .i64 p.s.ret.lo, .int .i64 p.s.ret.hi, .list (p.s.mod.map nmdV)]

def smyCells (s : Smy) : List V := [.list (s.alarms.map almV), .bool s.ends, .bool s.ret.some, .int .i64 s.ret.lo, .int .i64 s.ret.hi, .list (s.mod.map nmdV)]

theorem len_u64m {α : Type} (f : α → V) {r : List α} (h : r.length ≤ 100000000) : D.val (.int .u64 (IntKind.u64.wrap ((r.map f).length : Int))) = .val (u64V r.length) := by
  rw [List.length_map, wrapped_u64 _ (by omega)]; rfl

def IvlOk (v : Ivl) : Prop := isI64 v.lo ∧ isI64 v.hi
def AlmOk (a : Alm) : Prop := isI64 a.pos ∧ isI64 a.kind
def SmyOk (s : Smy) : Prop := (∀ a ∈ s.alarms, AlmOk a) ∧ IvlOk s.ret ∧ ∀ m ∈ s.mod, IvlOk m.v
def PrtOk (p : Prt) : Prop := p.n < 18446744073709551616 ∧ SmyOk p.s

/-- Small enough that the laws look at it. -/
def SmyLight (s : Smy) : Prop := s.alarms.length ≤ 10 ∧ s.mod.length ≤ 10 ∧ ∀ m ∈ s.mod, m.name.length ≤ 50
def PrtLight (p : Prt) : Prop := p.t.length ≤ 100 ∧ SmyLight p.s

def encIval (v : Ivl) : List UInt8 := encBool v.some ++ if v.some then encInt v.lo ++ encInt v.hi else []
def encAlarm (a : Alm) : List UInt8 := encInt a.pos ++ encInt a.kind
def encNamed (m : Nmd) : List UInt8 := encText m.name ++ encIval m.v
def encAlarms (l : List Alm) : List UInt8 := encNum l.length ++ l.flatMap encAlarm
def encSumm (s : Smy) : List UInt8 := encAlarms s.alarms ++ encBool s.ends ++ encIval s.ret ++ encNum s.mod.length ++ s.mod.flatMap encNamed
def encPart (p : Prt) : List UInt8 :=
  if p.what.toNat % 5 = 0 then encNum p.n else if p.what.toNat % 5 = 1 then encInt (IntKind.i64.wrap p.n) else if p.what.toNat % 5 = 2 then encText p.t
  else if p.what.toNat % 5 = 3 then encBool (p.n % 2 == 1) else encSumm p.s

theorem encInt_len {n : Int} (h : isI64 n) : (encInt n).length ≤ 10 := encNum_len (zig_lt h)

theorem encBool_len1 (b : Bool) : (encBool b).length = 1 := by
  rw [encBool_eq]; rfl

theorem encIval_len {v : Ivl} (h : IvlOk v) : (encIval v).length ≤ 21 := by
  have h1 := encInt_len h.1
  have h2 := encInt_len h.2
  unfold encIval
  rw [List.length_append, encBool_len1]
  split
  · rw [List.length_append]; omega
  · simp

theorem encAlarm_len {a : Alm} (h : AlmOk a) : (encAlarm a).length ≤ 20 := by
  have h1 := encInt_len h.1
  have h2 := encInt_len h.2
  unfold encAlarm
  rw [List.length_append]; omega

theorem encText_lenc {s : List UInt8} {c : Nat} (h : s.length ≤ c) (hc : c ≤ 100000000) : (encText s).length ≤ 10 + c := by
  have := encNum_len (n := s.length) (by omega)
  unfold encText; rw [List.length_append]; omega

theorem encNamed_len {m : Nmd} (h : IvlOk m.v) (hl : m.name.length ≤ 50) : (encNamed m).length ≤ 81 := by
  have h1 := encIval_len h
  have h2 := encText_lenc hl (by decide)
  unfold encNamed
  rw [List.length_append]; omega

theorem flat_allc {α : Type} {f : α → List UInt8} {c : Nat} {ns : List α} (h : ∀ n ∈ ns, (f n).length ≤ c) : (ns.flatMap f).length ≤ c * ns.length := by
  have := flat_len h ns.length
  rwa [List.take_length] at this

theorem encSumm_len {s : Smy} (h : SmyOk s) (hl : SmyLight s) : (encSumm s).length ≤ 1100 := by
  have h1 := flat_allc (f := encAlarm) (c := 20) (ns := s.alarms) fun a ha => encAlarm_len (h.1 a ha)
  have h2 := flat_allc (f := encNamed) (c := 81) (ns := s.mod) fun m hm => encNamed_len (h.2.2 m hm) (hl.2.2 m hm)
  have h3 := encIval_len h.2.1
  have h4 := encNum_len (n := s.alarms.length) (by have := hl.1; omega)
  have h5 := encNum_len (n := s.mod.length) (by have := hl.2.1; omega)
  have h6 := hl.1
  have h7 := hl.2.1
  unfold encSumm encAlarms
  simp only [List.length_append, encBool_len1]; omega

theorem wrap_i64_ok (n : Int) : isI64 (IntKind.i64.wrap n) := by
  unfold isI64 IntKind.wrap
  have e1 : (2 : Int) ^ IntKind.i64.bits = 18446744073709551616 := by decide
  have e2 : (2 : Int) ^ (IntKind.i64.bits - 1) = 9223372036854775808 := by decide
  rw [e1, e2]
  by_cases h : n % 18446744073709551616 ≥ 9223372036854775808
  · have : (IntKind.i64.signed && decide (n % 18446744073709551616 ≥ 9223372036854775808)) = true := by simp [IntKind.signed]; omega
    simp only [this, if_true]; omega
  · have : (IntKind.i64.signed && decide (n % 18446744073709551616 ≥ 9223372036854775808)) = false := by simp [IntKind.signed]; omega
    simp only [this, Bool.false_eq_true, if_false]; omega

theorem encPart_len {p : Prt} (h : PrtOk p) (hl : PrtLight p) : (encPart p).length ≤ 1100 := by
  unfold encPart
  have h1 := encNum_len h.1
  have h2 := encInt_len (wrap_i64_ok p.n)
  have h3 := encText_lenc hl.1 (by decide)
  have h4 := encSumm_len h.2 hl.2
  have h5 := encBool_len1 (p.n % 2 == 1)
  split
  · omega
  · split
    · omega
    · split
      · omega
      · split <;> omega

theorem rem5 (w : UInt8) : D.val (.int .u8 ((w.toNat : Int).tmod 5)) = .val (.int .u8 ((w.toNat % 5 : Nat) : Int)) := by
  rw [Int.tmod_eq_emod_of_nonneg (by omega)]; rfl

theorem odd_bool (n : Nat) : D.val (.bool ((n : Int).tmod 2 == 1)) = .val (boolV (n % 2 == 1)) := by
  rw [Int.tmod_eq_emod_of_nonneg (by omega)]
  unfold boolV
  have e : ((n : Int) % 2 == 1) = (n % 2 == 1) := by
    by_cases h : n % 2 = 1
    · have h1 : (n : Int) % 2 = 1 := by omega
      rw [h, h1]; rfl
    · have h1 : ¬ (n : Int) % 2 = 1 := by omega
      rw [beq_eq_false_iff_ne.mpr h, beq_eq_false_iff_ne.mpr h1]
  rw [e]

theorem eq5 {a b : Nat} (h : (((a : Nat) : Int) == ((b : Nat) : Int)) = true) : a = b := by
  have := eq_of_beq h; omega
theorem ne5 {a b : Nat} (h : (((a : Nat) : Int) == ((b : Nat) : Int)) = false) : a ≠ b := by
  have := beq_eq_false_iff_ne.mp h; omega

theorem encPart0 {p : Prt} (h : p.what.toNat % 5 = 0) : encPart p = encNum p.n := by unfold encPart; rw [if_pos h]
theorem encPart1 {p : Prt} (h : p.what.toNat % 5 = 1) : encPart p = encInt (IntKind.i64.wrap p.n) := by unfold encPart; rw [if_neg (by omega), if_pos h]
theorem encPart2 {p : Prt} (h : p.what.toNat % 5 = 2) : encPart p = encText p.t := by unfold encPart; rw [if_neg (by omega), if_neg (by omega), if_pos h]
theorem encPart3 {p : Prt} (h : p.what.toNat % 5 = 3) : encPart p = encBool (p.n % 2 == 1) := by unfold encPart; rw [if_neg (by omega), if_neg (by omega), if_neg (by omega), if_pos h]
theorem encPart4 {p : Prt} (h0 : p.what.toNat % 5 ≠ 0) (h1 : p.what.toNat % 5 ≠ 1) (h2 : p.what.toNat % 5 ≠ 2) (h3 : p.what.toNat % 5 ≠ 3) : encPart p = encSumm p.s := by
  unfold encPart; rw [if_neg h0, if_neg h1, if_neg h2, if_neg h3]

def prtCells (p : Prt) : List V := [.int .u8 p.what.toNat, .int .u64 p.n, .str p.t, .list (p.s.alarms.map almV), .bool p.s.ends, .bool p.s.ret.some, .int .i64 p.s.ret.lo, .int .i64 p.s.ret.hi, .list (p.s.mod.map nmdV)]

end Go.Proofs.YtlolmemiedhhhaaDoor

/- How the document's reader goes over a number's bytes: plain Lean. -/
namespace Go.Proofs.YtlolmemiedhhhaaDoor
set_option linter.unusedVariables false
set_option linter.unusedSimpArgs false
open Go Go.RowKit SL

def NumGoes (l : List UInt8) (i : Nat) : Prop := i < l.length ∧ (i < 9 ∨ i = 9 ∧ (l.getD i 0).toNat ≤ 1)
instance (l : List UInt8) (i : Nat) : Decidable (NumGoes l i) := inferInstanceAs (Decidable (_ ∧ _))
def numStop (l : List UInt8) (i : Nat) : Bool := !(decide (NumGoes l i))

theorem numStop_t {l : List UInt8} {i : Nat} {b : Bool} (hb : b = true) (h : ¬ NumGoes l i) : D.val (.bool b) = .val (.bool (numStop l i)) := by
  subst hb; unfold numStop; rw [decide_eq_false h]; rfl
theorem numStop_f {l : List UInt8} {i : Nat} {b : Bool} (hb : b = false) (h : NumGoes l i) : D.val (.bool b) = .val (.bool (numStop l i)) := by
  subst hb; unfold numStop; rw [decide_eq_true h]; rfl
theorem numStop_iff {l : List UInt8} {i : Nat} : (numStop l i = true ↔ ¬ NumGoes l i) ∧ (numStop l i = false ↔ NumGoes l i) := by
  unfold numStop
  constructor <;> simp

theorem drop_at {l : List UInt8} {i : Nat} (h : i < l.length) : l.drop i = l[i] :: l.drop (i + 1) := List.drop_eq_getElem_cons h
theorem getD_at {l : List UInt8} {i : Nat} (h : i < l.length) : l.getD i 0 = l[i] := by
  rw [List.getD_eq_getElem?_getD, List.getElem?_eq_getElem h]; rfl

theorem decN_stop {l : List UInt8} {i : Nat} (hi : i ≤ 10) (h : ¬ NumGoes l i) : decN i (l.drop i) = none := by
  by_cases h1 : i < l.length
  · rw [drop_at h1]
    unfold NumGoes at h
    rw [getD_at h1] at h
    simp only [decN]
    rw [if_pos (by omega)]
  · rw [List.drop_of_length_le (by omega)]; rfl

theorem goes_lt {l : List UInt8} {i : Nat} (h : NumGoes l i) : ∃ h1 : i < l.length, i < 9 ∨ i = 9 ∧ l[i].toNat ≤ 1 := by
  obtain ⟨h1, h2⟩ := h
  rw [getD_at h1] at h2
  exact ⟨h1, h2⟩

theorem and_low : ∀ y : Fin 256, (BitVec.ofInt 8 (y.val : Int) &&& BitVec.ofInt 8 127).toNat = y.val % 128 := by
  set_option maxRecDepth 8000 in decide

theorem low_byte (x : UInt8) : D.val (.int .u8 (IntKind.u8.wrap ((BitVec.ofInt IntKind.u8.bits (x.toNat : Int) &&& BitVec.ofInt IntKind.u8.bits 127).toNat : Int))) = .val (.int .u8 ((x.toNat % 128 : Nat) : Int)) := by
  have h := and_low ⟨x.toNat, x.toNat_lt⟩
  simp only at h
  show D.val (.int .u8 (IntKind.u8.wrap ((BitVec.ofInt 8 (x.toNat : Int) &&& BitVec.ofInt 8 127).toNat : Int))) = _
  rw [h, wrap_u8 (by omega) (by omega)]

end Go.Proofs.YtlolmemiedhhhaaDoor

/- Numbers of 32 bits, intervals, alarms and summaries, read: plain Lean. -/
namespace Go.Proofs.YtlolmemiedhhhaaDoor
set_option linter.unusedVariables false
set_option linter.unusedSimpArgs false
open Go Go.RowKit SL

def isI32 (n : Int) : Prop := -2147483648 ≤ n ∧ n ≤ 2147483647
instance (n : Int) : Decidable (isI32 n) := inferInstanceAs (Decidable (_ ∧ _))

def bindR {α β : Type} (x : Option (α × List UInt8)) (f : α → List UInt8 → Option (β × List UInt8)) : Option (β × List UInt8) :=
  match x with
  | none => none
  | some (a, r) => f a r

/-- A number of 32 bits, read. -/
def decS (l : List UInt8) : Option (Int × List UInt8) := bindR (decI l) fun n r => if isI32 n then some (n, r) else none

/-- How many there are, read. -/
def decC (l : List UInt8) : Option (Nat × List UInt8) := bindR (decN 0 l) fun n r => if n ≤ r.length then some (n, r) else none

def noIval : Ivl := ⟨false, 0, 0⟩

/-- An interval, read. -/
def decV (l : List UInt8) : Option (Ivl × List UInt8) := bindR (decB l) fun b r =>
  if b then bindR (decI r) fun lo r => bindR (decI r) fun hi r => some (⟨true, lo, hi⟩, r) else some (noIval, r)

def decA (l : List UInt8) : Option (Alm × List UInt8) := bindR (decS l) fun a r => bindR (decS r) fun k r => some (⟨a, k⟩, r)
def decM (l : List UInt8) : Option (Nmd × List UInt8) := bindR (decT l) fun t r => bindR (decV r) fun v r => some (⟨t, v⟩, r)

/-- So many, read one by one. -/
def decMany {α : Type} (dec : List UInt8 → Option (α × List UInt8)) : Nat → List UInt8 → Option (List α × List UInt8)
  | 0, l => some ([], l)
  | n + 1, l => bindR (decMany dec n l) fun xs r => bindR (dec r) fun x r => some (xs ++ [x], r)

theorem decS_len {l : List UInt8} {v : Int} {r : List UInt8} (h : decS l = some (v, r)) : r.length ≤ l.length ∧ isI32 v ∧ decI l = some (v, r) := by
  unfold decS bindR at h
  cases e : decI l with
  | none => rw [e] at h; cases h
  | some p =>
    rw [e] at h
    simp only at h
    split at h
    · rename_i h1
      simp only [Option.some.injEq, Prod.mk.injEq] at h
      obtain ⟨rfl, rfl⟩ := h
      exact ⟨decI_len (v := p.1) (by rw [e]), h1, rfl⟩
    · cases h

/-- A reading that left the reader so. -/
def Out {α : Type} (dec : List UInt8 → Option (α × List UInt8)) (st : Option (List UInt8)) (x : α) (st' : Option (List UInt8)) : Prop := st.bind dec = st'.map fun r => (x, r)

theorem out_rdOf {α : Type} {dec : List UInt8 → Option (α × List UInt8)} {z : α} (st : Option (List UInt8)) : Out dec st (rdOf dec z st).1 (rdOf dec z st).2 := by
  unfold Out
  cases st with
  | none => rfl
  | some l =>
    cases e : dec l with
    | none => rw [rdOf_bad e]; simp [e]
    | some p => rw [rdOf_good (v := p.1) (r := p.2) (by rw [e])]; simp [e]

theorem ival_true {st st1 st2 st3 : Option (List UInt8)} {lo hi : Int} (h1 : Out decB st true st1) (h2 : Out decI st1 lo st2) (h3 : Out decI st2 hi st3) : Out decV st ⟨true, lo, hi⟩ st3 := by
  unfold Out at *
  cases st with
  | none =>
    cases st1 with
    | none => cases st2 with
      | none => cases st3 with
        | none => rfl
        | some r => cases h3
      | some r => cases h2
    | some r => cases h1
  | some l =>
    simp only [Option.bind_some] at h1 ⊢
    unfold decV bindR
    cases st1 with
    | none =>
      rw [h1]
      cases st2 with
      | none => cases st3 with
        | none => rfl
        | some r => cases h3
      | some r => cases h2
    | some r1 =>
      rw [h1]
      simp only [Option.bind_some, Option.map_some] at h2 ⊢
      rw [h2]
      cases st2 with
      | none => cases st3 with
        | none => rfl
        | some r => cases h3
      | some r2 =>
        simp only [Option.bind_some, Option.map_some] at h3 ⊢
        rw [h3]
        cases st3 with
        | none => rfl
        | some r => rfl

theorem ival_false {st st1 : Option (List UInt8)} (h1 : Out decB st false st1) : Out decV st noIval st1 := by
  unfold Out at *
  cases st with
  | none => cases st1 with
    | none => rfl
    | some r => cases h1
  | some l =>
    simp only [Option.bind_some] at h1 ⊢
    unfold decV bindR
    rw [h1]
    cases st1 with
    | none => rfl
    | some r => rfl

/-- Alarms, read. -/
def decAl (l : List UInt8) : Option (List Alm × List UInt8) := bindR (decC l) fun n r => decMany decA n r

/-- Names with intervals, read. -/
def decMl (l : List UInt8) : Option (List Nmd × List UInt8) := bindR (decC l) fun n r => decMany decM n r

/-- A summary, read. -/
def decSumm (l : List UInt8) : Option (Smy × List UInt8) :=
  bindR (decAl l) fun al r => bindR (decB r) fun e r => bindR (decV r) fun v r => bindR (decMl r) fun ml r => some (⟨al, e, v, ml⟩, r)

def noSumm : Smy := ⟨[], false, noIval, []⟩

theorem Out.bind {α β : Type} {d1 : List UInt8 → Option (α × List UInt8)} {d2 : α → List UInt8 → Option (β × List UInt8)} {st st1 st2 : Option (List UInt8)} {a : α} {b : β}
    (h1 : Out d1 st a st1) (h2 : Out (d2 a) st1 b st2) : Out (fun l => bindR (d1 l) d2) st b st2 := by
  unfold Out at *
  cases st with
  | none =>
    cases st1 with
    | none => cases st2 with
      | none => rfl
      | some r => cases h2
    | some r => cases h1
  | some l =>
    simp only [Option.bind_some] at h1 ⊢
    rw [h1]
    cases st1 with
    | none => cases st2 with
      | none => rfl
      | some r => cases h2
    | some r1 => exact h2

theorem Out.done {α : Type} (x : α) (st : Option (List UInt8)) : Out (fun r => some (x, r)) st x st := by
  unfold Out
  cases st with
  | none => rfl
  | some r => rfl

theorem out_summ {st st1 st2 st3 st4 : Option (List UInt8)} {al : List Alm} {e : Bool} {v : Ivl} {ml : List Nmd} (h1 : Out decAl st al st1) (h2 : Out decB st1 e st2) (h3 : Out decV st2 v st3) (h4 : Out decMl st3 ml st4) :
    Out decSumm st ⟨al, e, v, ml⟩ st4 :=
  Out.bind h1 (Out.bind (d2 := fun e r => bindR (decV r) fun v r => bindR (decMl r) fun ml r => some ((⟨al, e, v, ml⟩ : Smy), r)) h2
    (Out.bind (d2 := fun v r => bindR (decMl r) fun ml r => some ((⟨al, e, v, ml⟩ : Smy), r)) h3 (Out.bind (d2 := fun ml r => some ((⟨al, e, v, ml⟩ : Smy), r)) h4 (Out.done _ _))))

theorem out_nmd {st st1 st2 : Option (List UInt8)} {t : List UInt8} {v : Ivl} (h1 : Out decT st t st1) (h2 : Out decV st1 v st2) : Out decM st ⟨t, v⟩ st2 :=
  Out.bind h1 (Out.bind (d2 := fun v r => some ((⟨t, v⟩ : Nmd), r)) h2 (Out.done _ _))

theorem ml_none {st : Option (List UInt8)} {n : Nat} (h : Out (decN 0) st n none) : Out decMl st [] none := by
  unfold Out at *
  cases st with
  | none => rfl
  | some l =>
    simp only [Option.bind_some, Option.map_none] at h ⊢
    unfold decMl decC bindR; rw [h]

theorem ml_great {st : Option (List UInt8)} {n : Nat} {r : List UInt8} (h : Out (decN 0) st n (some r)) (hn : ¬ n ≤ r.length) : Out decMl st [] none := by
  unfold Out at *
  cases st with
  | none => rfl
  | some l =>
    simp only [Option.bind_some, Option.map_some, Option.map_none] at h ⊢
    unfold decMl decC bindR; rw [h]; simp only; rw [if_neg hn]

theorem ml_some {st : Option (List UInt8)} {n : Nat} {r : List UInt8} (h : Out (decN 0) st n (some r)) (hn : n ≤ r.length) {ml : List Nmd} {st' : Option (List UInt8)} (h2 : Out (decMany decM n) (some r) ml st') : Out decMl st ml st' := by
  unfold Out at *
  cases st with
  | none => cases h
  | some l =>
    simp only [Option.bind_some, Option.map_some] at h h2 ⊢
    unfold decMl decC bindR; rw [h]; simp only; rw [if_pos hn]; exact h2

theorem out_none {α : Type} {dec : List UInt8 → Option (α × List UInt8)} {st : Option (List UInt8)} {x y : α} (h : Out dec st x none) : Out dec st y none := h

theorem al_none {st : Option (List UInt8)} {n : Nat} (h : Out (decN 0) st n none) : Out decAl st [] none := by
  unfold Out at *
  cases st with
  | none => rfl
  | some l =>
    simp only [Option.bind_some, Option.map_none] at h ⊢
    unfold decAl decC bindR; rw [h]

theorem al_great {st : Option (List UInt8)} {n : Nat} {r : List UInt8} (h : Out (decN 0) st n (some r)) (hn : ¬ n ≤ r.length) : Out decAl st [] none := by
  unfold Out at *
  cases st with
  | none => rfl
  | some l =>
    simp only [Option.bind_some, Option.map_some, Option.map_none] at h ⊢
    unfold decAl decC bindR; rw [h]; simp only; rw [if_neg hn]

theorem al_some {st : Option (List UInt8)} {n : Nat} {r : List UInt8} (h : Out (decN 0) st n (some r)) (hn : n ≤ r.length) {al : List Alm} {st' : Option (List UInt8)} (h2 : Out (decMany decA n) (some r) al st') : Out decAl st al st' := by
  unfold Out at *
  cases st with
  | none => cases h
  | some l =>
    simp only [Option.bind_some, Option.map_some] at h h2 ⊢
    unfold decAl decC bindR; rw [h]; simp only; rw [if_pos hn]; exact h2

theorem many_zero {α : Type} {dec : List UInt8 → Option (α × List UInt8)} (r : List UInt8) : Out (decMany dec 0) (some r) [] (some r) := rfl

/-- One more of them. -/
theorem many_succ {α : Type} {dec : List UInt8 → Option (α × List UInt8)} {r : List UInt8} {j : Nat} {xs : List α} {r1 : List UInt8} {x : α} {st2 : Option (List UInt8)}
    (h : Out (decMany dec j) (some r) xs (some r1)) (h2 : Out dec (some r1) x st2) : Out (decMany dec (j + 1)) (some r) (xs ++ [x]) st2 := by
  unfold Out at *
  simp only [Option.bind_some, Option.map_some] at h h2 ⊢
  unfold decMany bindR; rw [h]; simp only; rw [h2]
  cases st2 with
  | none => rfl
  | some r => rfl

/-- Once it has failed it stays so. -/
theorem many_fail {α : Type} {dec : List UInt8 → Option (α × List UInt8)} {r : List UInt8} {j : Nat} {xs ys : List α} (h : Out (decMany dec j) (some r) xs none) : ∀ n, j ≤ n → Out (decMany dec n) (some r) ys none := by
  intro n hn
  induction hn with
  | refl => exact h
  | step _ ih =>
    unfold Out at *
    simp only [Option.bind_some, Option.map_none] at ih ⊢
    unfold decMany bindR; rw [ih]

theorem out_alm {st st1 st2 : Option (List UInt8)} {a k : Int} (h1 : Out decS st a st1) (h2 : Out decS st1 k st2) : Out decA st ⟨a, k⟩ st2 := by
  unfold Out at *
  cases st with
  | none =>
    cases st1 with
    | none => cases st2 with
      | none => rfl
      | some r => cases h2
    | some r => cases h1
  | some l =>
    simp only [Option.bind_some] at h1 ⊢
    unfold decA bindR
    rw [h1]
    cases st1 with
    | none => cases st2 with
      | none => rfl
      | some r => cases h2
    | some r1 =>
      simp only [Option.bind_some, Option.map_some] at h2 ⊢
      rw [h2]
      cases st2 with
      | none => rfl
      | some r => rfl

end Go.Proofs.YtlolmemiedhhhaaDoor

/- Sets of texts, in order, and what pointers may be: plain Lean. -/
namespace Go.Proofs.YtlolmemiedhhhaaDoor
set_option linter.unusedVariables false
set_option linter.unusedSimpArgs false
open Go Go.RowKit SL

abbrev Txt := List UInt8
def Strict (l : List Txt) : Prop := l.Pairwise (· < ·)

theorem strict_ext : ∀ {l m : List Txt}, Strict l → Strict m → (∀ x, x ∈ l ↔ x ∈ m) → l = m
  | [], [], _, _, _ => rfl
  | [], y :: m, _, _, h => absurd ((h y).2 (List.mem_cons_self ..)) (by simp)
  | x :: l, [], _, _, h => absurd ((h x).1 (List.mem_cons_self ..)) (by simp)
  | x :: l, y :: m, hl, hm, h => by
    obtain ⟨h1, h2⟩ := List.pairwise_cons.mp hl
    obtain ⟨h3, h4⟩ := List.pairwise_cons.mp hm
    have hxy : x = y := by
      rcases List.mem_cons.mp ((h x).1 (List.mem_cons_self ..)) with e | e
      · exact e
      · rcases List.mem_cons.mp ((h y).2 (List.mem_cons_self ..)) with e' | e'
        · exact e'.symm
        · exact absurd (List.lt_trans (h1 y e') (h3 x e)) (List.lt_irrefl x)
    subst hxy
    rw [strict_ext h2 h4 fun z => ⟨fun hz => ?_, fun hz => ?_⟩]
    · rcases List.mem_cons.mp ((h z).1 (List.mem_cons_of_mem _ hz)) with e | e
      · subst e; exact absurd (h1 z hz) (List.lt_irrefl z)
      · exact e
    · rcases List.mem_cons.mp ((h z).2 (List.mem_cons_of_mem _ hz)) with e | e
      · subst e; exact absurd (h3 z hz) (List.lt_irrefl z)
      · exact e

theorem lt_of_le_ne {x y : Txt} (h : x ≤ y) (hn : x ≠ y) : x < y := by
  rcases List.le_total y x with h' | h'
  · exact absurd (List.le_antisymm h h') hn
  · exact Decidable.byContradiction fun hc => hn (List.le_antisymm h (List.not_lt.mp hc))

theorem compactUpTo_strict (d : Array Txt) (hd : ∀ i j, i ≤ j → j < d.size → d[i]! ≤ d[j]!) : ∀ m, m ≤ d.size → Strict (Lib.compactUpTo d m) ∧ ∀ x, x ∈ Lib.compactUpTo d m ↔ ∃ j, j < m ∧ d[j]! = x
  | 0, _ => ⟨List.Pairwise.nil, fun x => by simp [Lib.compactUpTo]⟩
  | m + 1, hm => by
    obtain ⟨h1, h2⟩ := compactUpTo_strict d hd m (by omega)
    rw [Lib.compactUpTo_succ]
    cases hk : Lib.keeps d m with
    | true =>
      rw [if_pos rfl]
      refine ⟨List.pairwise_append.mpr ⟨h1, by simp [List.Pairwise], fun y hy z hz => ?_⟩, fun x => ?_⟩
      · obtain ⟨j, hj, rfl⟩ := (h2 y).1 hy
        obtain rfl := List.mem_singleton.mp hz
        have hk' : m = 0 ∨ d[m]! ≠ d[m - 1]! := by simpa [Lib.keeps] using hk
        have hne : d[m]! ≠ d[m - 1]! := hk'.resolve_left (by omega)
        exact List.lt_of_le_of_lt (hd j (m - 1) (by omega) (by omega)) (lt_of_le_ne (hd (m - 1) m (by omega) (by omega)) (Ne.symm hne))
      · rw [List.mem_append, List.mem_singleton, h2]
        constructor
        · rintro (⟨j, hj, e⟩ | rfl)
          · exact ⟨j, by omega, e⟩
          · exact ⟨m, by omega, rfl⟩
        · rintro ⟨j, hj, e⟩
          rcases Nat.lt_or_eq_of_le (Nat.le_of_lt_succ hj) with c | c
          · exact .inl ⟨j, c, e⟩
          · subst c; exact .inr e.symm
    | false =>
      rw [if_neg (by simp), List.append_nil]
      refine ⟨h1, fun x => ?_⟩
      rw [h2]
      have hk' : ¬ (m = 0 ∨ d[m]! ≠ d[m - 1]!) := by simpa [Lib.keeps] using hk
      have h0 : m ≠ 0 := fun e => hk' (.inl e)
      have he : d[m]! = d[m - 1]! := Decidable.byContradiction fun e => hk' (.inr e)
      constructor
      · rintro ⟨j, hj, e⟩; exact ⟨j, by omega, e⟩
      · rintro ⟨j, hj, e⟩
        rcases Nat.lt_or_eq_of_le (Nat.le_of_lt_succ hj) with c | c
        · exact ⟨j, c, e⟩
        · subst c; exact ⟨j - 1, by omega, by rw [← he, e]⟩

/-- What pts.plain makes of cells: in order, each once. -/
def normL (l : List Txt) : List Txt := Lib.compact (l.mergeSort fun x y => decide (x ≤ y))

theorem normL_facts (l : List Txt) : Strict (normL l) ∧ ∀ x, x ∈ normL l ↔ x ∈ l := by
  have hs : (l.mergeSort fun x y => decide (x ≤ y)).Pairwise (fun x y => decide (x ≤ y) = true) :=
    List.pairwise_mergeSort (fun a b c h h' => by simp only [decide_eq_true_eq] at *; exact List.le_trans h h') (fun a b => by rcases List.le_total a b with h | h <;> simp [h]) l
  obtain ⟨h1, h2⟩ := compactUpTo_strict (l.mergeSort fun x y => decide (x ≤ y)).toArray (fun i j hij hj => by
    have hj' : j < (l.mergeSort fun x y => decide (x ≤ y)).length := by simpa using hj
    rw [getElem!_pos _ i (by simpa using Nat.lt_of_le_of_lt hij hj'), getElem!_pos _ j (by simpa using hj')]
    rcases Nat.lt_or_eq_of_le hij with c | c
    · have := List.pairwise_iff_getElem.mp hs i j (by omega) hj' c
      simpa using this
    · subst c; exact List.le_refl _) _ (Nat.le_refl _)
  refine ⟨by simpa [normL, Lib.compact] using h1, fun x => ?_⟩
  have : normL l = Lib.compactUpTo (l.mergeSort fun x y => decide (x ≤ y)).toArray (l.mergeSort fun x y => decide (x ≤ y)).toArray.size := by simp [normL, Lib.compact]
  rw [this, h2]
  constructor
  · rintro ⟨j, hj, rfl⟩
    have hj' : j < (l.mergeSort fun x y => decide (x ≤ y)).length := by simpa using hj
    rw [getElem!_pos _ j hj]
    exact List.mem_mergeSort.mp (by rw [List.getElem_toArray]; exact List.getElem_mem hj')
  · intro hx
    obtain ⟨j, hj, rfl⟩ := List.getElem_of_mem (List.mem_mergeSort (le := fun x y => decide (x ≤ y)) |>.mpr hx)
    exact ⟨j, by simpa using hj, by rw [getElem!_pos _ j (by simpa using hj)]; simp⟩
theorem normL_strict (l : List Txt) : Strict (normL l) := (normL_facts l).1
theorem mem_normL {l : List Txt} {x : Txt} : x ∈ normL l ↔ x ∈ l := (normL_facts l).2 x
theorem normL_eq {l m : List Txt} (h : ∀ x, x ∈ l ↔ x ∈ m) : normL l = normL m := strict_ext (normL_strict l) (normL_strict m) fun x => by rw [mem_normL, mem_normL]; exact h x
theorem normL_of_strict {l : List Txt} (h : Strict l) : normL l = l := strict_ext (normL_strict l) h fun x => mem_normL
theorem normL_len (l : List Txt) : (normL l).length ≤ l.length := by
  have : (normL l).length ≤ (l.mergeSort fun x y => decide (x ≤ y)).length := by
    simp only [normL, Lib.compact, Lib.compactUpTo, List.length_map]
    exact Nat.le_trans (List.length_filter_le _ _) (by simp)
  simpa using this

theorem bl_eq : ∀ (x y : Txt), Op.bytesLess x y = decide (x < y)
  | [], [] => by simp [Op.bytesLess]
  | _ :: _, [] => by simp [Op.bytesLess]
  | [], _ :: _ => by simp [Op.bytesLess]
  | a :: x, b :: y => by
    rw [Op.bytesLess, bl_eq x y]
    by_cases h : a < b
    · simp [h, List.cons_lt_cons_iff]
    · by_cases e : a = b
      · subst e; simp [List.cons_lt_cons_iff]
      · simp [h, e, List.cons_lt_cons_iff]
theorem bl_tt {x y : Txt} (h : Op.bytesLess x y = true) : x < y := by rw [bl_eq] at h; simpa using h
theorem bl_ff {x y : Txt} (h : Op.bytesLess x y = false) : ¬ x < y := by rw [bl_eq] at h; simpa using h

/-- What the document's Add makes of a list. -/
def insL : List Txt → Txt → List Txt
  | [], s => [s]
  | x :: l, s => if x < s then x :: insL l s else if x = s then x :: l else s :: x :: l
def refL (l : List Txt) : List Txt := l.foldl insL []

theorem mem_insL : ∀ {l : List Txt} {s x : Txt}, x ∈ insL l s ↔ x = s ∨ x ∈ l
  | [], s, x => by simp [insL]
  | y :: l, s, x => by
    rw [insL]
    split
    · rw [List.mem_cons, mem_insL, List.mem_cons]
      constructor <;> rintro (h | h | h) <;> simp [h]
    · split
      · rename_i h; subst h; simp
      · simp
theorem insL_strict : ∀ {l : List Txt} {s : Txt}, Strict l → Strict (insL l s)
  | [], s, _ => by simp [insL, Strict]
  | y :: l, s, h => by
    obtain ⟨h1, h2⟩ := List.pairwise_cons.mp h
    rw [insL]
    split
    · rename_i hlt
      refine List.pairwise_cons.mpr ⟨fun z hz => ?_, insL_strict h2⟩
      rcases mem_insL.mp hz with rfl | hz
      · exact hlt
      · exact h1 z hz
    · rename_i hnl
      split
      · exact h
      · rename_i hne
        have hlt : s < y := lt_of_le_ne (List.not_lt.mp hnl) (fun e => hne e.symm)
        refine List.pairwise_cons.mpr ⟨fun z hz => ?_, h⟩
        rcases List.mem_cons.mp hz with rfl | hz
        · exact hlt
        · exact List.lt_trans hlt (h1 z hz)
theorem refL_gen : ∀ (l acc : List Txt), Strict acc → Strict (l.foldl insL acc) ∧ ∀ x, x ∈ l.foldl insL acc ↔ x ∈ acc ∨ x ∈ l
  | [], acc, h => ⟨h, fun x => by simp⟩
  | s :: l, acc, h => by
    obtain ⟨h1, h2⟩ := refL_gen l (insL acc s) (insL_strict h)
    refine ⟨h1, fun x => ?_⟩
    rw [List.foldl_cons, h2, mem_insL, List.mem_cons]
    constructor
    · rintro ((h | h) | h) <;> simp [h]
    · rintro (h | h | h) <;> simp [h]
theorem refL_eq (l : List Txt) : refL l = normL l := strict_ext (refL_gen l [] List.Pairwise.nil).1 (normL_strict l) fun x => by
  rw [mem_normL]; exact ((refL_gen l [] List.Pairwise.nil).2 x).trans (by simp)
theorem insL_len : ∀ (l : List Txt) (s : Txt), (insL l s).length ≤ l.length + 1
  | [], s => by simp [insL]
  | x :: l, s => by
    rw [insL]; have := insL_len l s
    split
    · simp; omega
    · split <;> simp
theorem refL_snoc {l : List Txt} {k : Nat} (hk : k < l.length) : refL (l.take (k + 1)) = insL (refL (l.take k)) l[k] := by
  rw [refL, refL, List.take_add_one, List.getElem?_eq_getElem hk, List.foldl_append]; rfl

/-- Where Add stands. -/
theorem insL_at : ∀ {l : List Txt} {s : Txt} {k : Nat}, k ≤ l.length → (∀ j (h : j < l.length), j < k → l[j] < s) → (∀ h : k < l.length, ¬ l[k] < s) →
    insL l s = if l[k]? = some s then l else l.take k ++ s :: l.drop k
  | [], s, k, hk, h1, h2 => by
    have : k = 0 := by simpa using hk
    subst this; simp [insL]
  | x :: l, s, 0, _, h1, h2 => by
    have h3 : ¬ x < s := h2 (by simp)
    rw [insL, if_neg h3]
    by_cases e : x = s
    · subst e; simp
    · rw [if_neg e, if_neg (by simpa using e)]; rfl
  | x :: l, s, k + 1, hk, h1, h2 => by
    have h3 : x < s := h1 0 (by simp) (by omega)
    rw [insL, if_pos h3, insL_at (k := k) (by simpa using hk) (fun j hj hjk => h1 (j + 1) (by simpa using hj) (by omega)) (fun h => h2 (by simpa using h))]
    simp only [List.getElem?_cons_succ, List.take_succ_cons, List.drop_succ_cons]
    split <;> rfl

theorem isnt {p : Prop} [Decidable p] (h : ¬ p) : D.val (.bool false) = .val (.bool (decide p)) := by rw [decide_eq_false h]
theorem isso {p : Prop} [Decidable p] (h : p) : D.val (.bool true) = .val (.bool (decide p)) := by rw [decide_eq_true h]
theorem val_tt {b : Bool} (h : b = true) : D.val (.bool b) = D.val (.bool true) := congrArg (fun b => D.val (.bool b)) h
theorem val_ff {b : Bool} (h : b = false) : D.val (.bool b) = D.val (.bool false) := congrArg (fun b => D.val (.bool b)) h

/-! ### Pointers -/
structure Pt where
  null : Bool
  cells : List Txt
deriving DecidableEq

def ptV (p : Pt) : V := .agg [.bool p.null, .list (p.cells.map strV)]
def noPt : Pt := ⟨false, []⟩
def nmP (p : Pt) : Pt := ⟨p.null, normL p.cells⟩
def allCells (l : List Pt) : List Txt := l.flatMap (·.cells)
def joinP (l : List Pt) : Pt := ⟨l.any (·.null), normL (allCells l)⟩
def leqP (a b : Pt) : Bool := (!a.null || b.null) && a.cells.all fun x => decide (x ∈ b.cells)
def emptyP (p : Pt) : Bool := !p.null && p.cells.isEmpty

theorem leqP_iff {a b : Pt} : leqP a b = true ↔ (a.null = true → b.null = true) ∧ ∀ x ∈ a.cells, x ∈ b.cells := by
  unfold leqP
  rw [Bool.and_eq_true, List.all_eq_true]
  constructor
  · rintro ⟨h1, h2⟩
    exact ⟨fun h => by rw [h] at h1; simpa using h1, fun x hx => by simpa using h2 x hx⟩
  · rintro ⟨h1, h2⟩
    refine ⟨?_, fun x hx => by simpa using h2 x hx⟩
    cases e : a.null with
    | false => rfl
    | true => rw [h1 e]; rfl

theorem allCells_snoc {l : List Pt} {k : Nat} (hk : k < l.length) : allCells (l.take (k + 1)) = allCells (l.take k) ++ (l[k]).cells := by
  rw [allCells, List.take_add_one, List.getElem?_eq_getElem hk, List.flatMap_append]; simp [allCells]
theorem any_snoc {l : List Pt} {k : Nat} (hk : k < l.length) : (l.take (k + 1)).any (·.null) = ((l.take k).any (·.null) || (l[k]).null) := by
  rw [List.take_add_one, List.getElem?_eq_getElem hk, List.any_append]; simp

theorem join_snoc (l : List Txt) (x sep : Txt) (h : l ≠ []) : Lib.join (l ++ [x]) sep = Lib.join l sep ++ sep ++ x := by
  cases l with
  | nil => exact absurd rfl h
  | cons y l => rw [List.cons_append, Lib.join_cons, Lib.join_cons, Lib.joinTail, Lib.joinTail]; simp
theorem join_one (x sep : Txt) : Lib.join [x] sep = x := by rw [Lib.join_cons]; simp [Lib.joinTail]
theorem join_len {c : Nat} {sep : Txt} : ∀ {l : List Txt}, (∀ x ∈ l, x.length ≤ c) → (Lib.join l sep).length ≤ l.length * (c + sep.length)
  | [], _ => by simp [Lib.join_nil]
  | y :: l, h => by
    rw [Lib.join_cons, List.length_append]
    have h1 := h y (List.mem_cons_self ..)
    have h2 : ∀ (l : List Txt), (∀ x ∈ l, x.length ≤ c) → (Lib.joinTail sep l).length ≤ l.length * (c + sep.length) := by
      intro l
      induction l with
      | nil => intro _; simp [Lib.joinTail]
      | cons z l ih =>
        intro h
        have h3 := ih fun x hx => h x (List.mem_cons_of_mem _ hx)
        have h4 := h z (List.mem_cons_self ..)
        simp only [Lib.joinTail, List.map_cons, List.flatten_cons, List.length_append, List.length_cons, Nat.add_mul] at h3 ⊢
        omega
    have h3 := h2 l fun x hx => h x (List.mem_cons_of_mem _ hx)
    simp only [List.length_cons, Nat.add_mul]
    omega

def nullT : Txt := [110, 117, 108, 108]
/-- A pointer's text. -/
def textP (p : Pt) : Txt := [123] ++ Lib.join ((if p.null then [nullT] else []) ++ normL p.cells) [44] ++ [125]

end Go.Proofs.YtlolmemiedhhhaaDoor

/- Intervals joined, met, widened, held against one another, told: plain Lean. -/
namespace Go.Proofs.YtlolmemiedhhhaaDoor
set_option linter.unusedVariables false
set_option linter.unusedSimpArgs false
open Go Go.RowKit SL

theorem Ivl.ext' {a b : Ivl} (h1 : a.some = b.some) (h2 : a.lo = b.lo) (h3 : a.hi = b.hi) : a = b := by
  cases a; cases b; cases h1; cases h2; cases h3; rfl

/-- Two intervals, as they lie. -/
def eqI (a b : Ivl) : Bool := a.some == b.some && (a.lo == b.lo && (a.hi == b.hi && true))

theorem eqI_iff {a b : Ivl} : eqI a b = true ↔ a = b := by
  unfold eqI
  constructor
  · intro h
    simp only [Bool.and_true, Bool.and_eq_true, beq_iff_eq] at h
    exact Ivl.ext' h.1 h.2.1 h.2.2
  · rintro rfl; simp

instance : DecidableEq Ivl := fun a b => decidable_of_iff (eqI a b = true) eqI_iff

theorem eqI_self (a : Ivl) : eqI a a = true := eqI_iff.mpr rfl
theorem eqI_of {a b : Ivl} (h : a = b) : eqI a b = true := eqI_iff.mpr h
theorem eqI_ne {a b : Ivl} (h : eqI a b = false) : a ≠ b := fun e => by rw [eqI_of e] at h; cases h
theorem eqI_comm (a b : Ivl) : eqI a b = eqI b a := by
  cases h : eqI a b with
  | true => rw [eqI_iff.mp h, eqI_self]
  | false => cases h' : eqI b a with
    | false => rfl
    | true => rw [eqI_iff.mp h', eqI_self] at h; cases h

def topI : Ivl := ⟨true, -9223372036854775808, 9223372036854775807⟩
/-- An interval in its one form. -/
def nrm (a : Ivl) : Ivl := if a.some = true ∧ a.lo ≤ a.hi then a else noIval
def ofI (lo hi : Int) : Ivl := nrm ⟨true, lo, hi⟩

/-- An interval that is in its one form. -/
def Nrm (a : Ivl) : Prop := a = noIval ∨ ∃ lo hi, a = ⟨true, lo, hi⟩ ∧ lo ≤ hi ∧ isI64 lo ∧ isI64 hi

theorem nrm_no {a : Ivl} (h : ¬ (a.some = true ∧ a.lo ≤ a.hi)) : nrm a = noIval := if_neg h
theorem nrm_is {lo hi : Int} (h : lo ≤ hi) : nrm ⟨true, lo, hi⟩ = ⟨true, lo, hi⟩ := if_pos ⟨rfl, h⟩
theorem nrm_noI : nrm noIval = noIval := rfl
theorem ofI_is {lo hi : Int} (h : lo ≤ hi) : ofI lo hi = ⟨true, lo, hi⟩ := nrm_is h
theorem ofI_no {lo hi : Int} (h : ¬ lo ≤ hi) : ofI lo hi = noIval := nrm_no fun x => h x.2
theorem nrm_nrm (a : Ivl) : nrm (nrm a) = nrm a := by
  by_cases h : a.some = true ∧ a.lo ≤ a.hi
  · have : nrm a = a := if_pos h
    rw [this, this]
  · rw [nrm_no h]; rfl
theorem nrm_ok {a : Ivl} (h : IvlOk a) : Nrm (nrm a) := by
  by_cases h' : a.some = true ∧ a.lo ≤ a.hi
  · rw [show nrm a = a from if_pos h']
    exact .inr ⟨a.lo, a.hi, Ivl.ext' h'.1 rfl rfl, h'.2, h.1, h.2⟩
  · rw [nrm_no h']; exact .inl rfl
theorem Nrm.eq {a : Ivl} (h : Nrm a) : nrm a = a := by
  rcases h with rfl | ⟨lo, hi, rfl, h, _⟩
  · rfl
  · exact nrm_is h
theorem Nrm.ok {a : Ivl} (h : Nrm a) : IvlOk a := by
  rcases h with rfl | ⟨lo, hi, rfl, h, h1, h2⟩
  · exact ⟨⟨by decide, by decide⟩, by decide, by decide⟩
  · exact ⟨h1, h2⟩
theorem nrm_top : Nrm topI := .inr ⟨_, _, rfl, by decide, ⟨by decide, by decide⟩, by decide, by decide⟩
theorem nrm_none : Nrm noIval := .inl rfl

/-- What holds both, of intervals in their one form. -/
def jn (x y : Ivl) : Ivl := if y.some = false then x else if x.some = false then y else ⟨true, min x.lo y.lo, max x.hi y.hi⟩
def joinL (l : List Ivl) : Ivl := l.foldl (fun o a => jn o (nrm a)) noIval
/-- What both hold. -/
def mt (x y : Ivl) : Ivl := if y.some = false ∨ x.some = false then noIval else ofI (max x.lo y.lo) (min x.hi y.hi)
def meetL (l : List Ivl) : Ivl := l.foldl (fun o a => mt o (nrm a)) topI
def wd (x y : Ivl) : Ivl := if x.some = false then y else if y.some = false then x else ⟨true, if x.lo ≤ y.lo then x.lo else -9223372036854775808, if y.hi ≤ x.hi then x.hi else 9223372036854775807⟩
def widenI (a b : Ivl) : Ivl := wd (nrm a) (nrm b)
def leqI (a b : Ivl) : Bool := eqI (joinL [a, b]) (nrm b)
def hasI (a : Ivl) (n : Int) : Bool := a.some && (decide (a.lo ≤ n) && decide (n ≤ a.hi))

theorem jn_no {x : Ivl} : jn x noIval = x := rfl
theorem jn_nol {y : Ivl} (h : Nrm y) : jn noIval y = y := by
  rcases h with rfl | ⟨lo, hi, rfl, _⟩ <;> rfl
theorem jn_is {a b c d : Int} : jn ⟨true, a, b⟩ ⟨true, c, d⟩ = ⟨true, min a c, max b d⟩ := rfl
theorem mt_no {x : Ivl} : mt x noIval = noIval := rfl
theorem mt_nol {x : Ivl} : mt noIval x = noIval := by unfold mt; rw [if_pos (.inr rfl)]
theorem mt_is {a b c d : Int} : mt ⟨true, a, b⟩ ⟨true, c, d⟩ = ofI (max a c) (min b d) := rfl
theorem wd_is {a b c d : Int} : wd ⟨true, a, b⟩ ⟨true, c, d⟩ = ⟨true, if a ≤ c then a else -9223372036854775808, if d ≤ b then b else 9223372036854775807⟩ := rfl
theorem mt_top {x : Ivl} (h : Nrm x) : mt topI x = x := by
  rcases h with rfl | ⟨lo, hi, rfl, h, h1, h2⟩
  · rfl
  · unfold topI isI64 at *
    rw [mt_is, ofI_is (by omega)]
    exact Ivl.ext' rfl (by show max (-9223372036854775808) lo = lo; omega) (by show min 9223372036854775807 hi = hi; omega)
/-- Bounds in order. -/
def Le (x : Ivl) : Prop := x.some = true → x.lo ≤ x.hi
theorem nrm_le (a : Ivl) : Le (nrm a) := by
  by_cases h : a.some = true ∧ a.lo ≤ a.hi
  · rw [show nrm a = a from if_pos h]; exact fun _ => h.2
  · rw [nrm_no h]; exact fun h => by cases h
theorem jn_le {x y : Ivl} (hx : Le x) (hy : Le y) : Le (jn x y) := by
  unfold jn
  split
  · exact hx
  · split
    · exact hy
    · rename_i h1 h2
      intro _
      have := hx (by simpa using h2)
      have := hy (by simpa using h1)
      show min _ _ ≤ max _ _
      omega
theorem joinL_le (l : List Ivl) : Le (joinL l) := by
  unfold joinL
  have : ∀ (l : List Ivl) (x : Ivl), Le x → Le (l.foldl (fun o a => jn o (nrm a)) x) := by
    intro l
    induction l with
    | nil => exact fun x h => h
    | cons a l ih => exact fun x h => ih _ (jn_le h (nrm_le a))
  exact this l _ fun h => by cases h
theorem jn_of {x y : Ivl} (hx : Le x) (hy : Le y) (h1 : ¬ y.some = false) (h2 : ¬ x.some = false) : ofI (min x.lo y.lo) (max x.hi y.hi) = jn x y := by
  unfold jn
  rw [if_neg h1, if_neg h2, ofI_is]
  have := hx (by simpa using h2)
  have := hy (by simpa using h1)
  omega
theorem jn_ok {x y : Ivl} (hx : Nrm x) (hy : Nrm y) : Nrm (jn x y) := by
  rcases hy with rfl | ⟨c, d, rfl, h1, h2, h3⟩
  · exact hx
  · rcases hx with rfl | ⟨a, b, rfl, k1, k2, k3⟩
    · exact .inr ⟨c, d, rfl, h1, h2, h3⟩
    · unfold isI64 at *
      exact .inr ⟨_, _, jn_is, by omega, ⟨by omega, by omega⟩, by omega, by omega⟩
theorem mt_ok {x y : Ivl} (hx : Nrm x) (hy : Nrm y) : Nrm (mt x y) := by
  rcases hy with rfl | ⟨c, d, rfl, h1, h2, h3⟩
  · exact nrm_none
  · rcases hx with rfl | ⟨a, b, rfl, k1, k2, k3⟩
    · rw [mt_nol]; exact nrm_none
    · rw [mt_is]
      apply nrm_ok
      unfold isI64 at *
      constructor <;> constructor <;> simp only <;> omega
theorem wd_ok {x y : Ivl} (hx : Nrm x) (hy : Nrm y) : Nrm (wd x y) := by
  rcases hx with rfl | ⟨a, b, rfl, k1, k2, k3⟩
  · exact hy
  · rcases hy with rfl | ⟨c, d, rfl, h1, h2, h3⟩
    · exact .inr ⟨a, b, rfl, k1, k2, k3⟩
    · unfold isI64 at *
      refine .inr ⟨_, _, wd_is, ?_, ⟨?_, ?_⟩, ?_, ?_⟩ <;> (repeat' split) <;> omega
theorem joinL_from (l : List Ivl) : ∀ {x : Ivl}, Nrm x → (∀ a ∈ l, IvlOk a) → Nrm (l.foldl (fun o a => jn o (nrm a)) x) := by
  induction l with
  | nil => intro x h _; exact h
  | cons a l ih => intro x h hl; exact ih (jn_ok h (nrm_ok (hl a (by simp)))) fun b hb => hl b (by simp [hb])
theorem joinL_ok {l : List Ivl} (h : ∀ a ∈ l, IvlOk a) : Nrm (joinL l) := joinL_from l nrm_none h
theorem joinL_two {a b : Ivl} (ha : IvlOk a) : joinL [a, b] = jn (nrm a) (nrm b) := by
  show jn (jn noIval (nrm a)) (nrm b) = _
  rw [jn_nol (nrm_ok ha)]
theorem joinL_one {a : Ivl} (ha : IvlOk a) : joinL [a] = nrm a := jn_nol (nrm_ok ha)
theorem meetL_two {a b : Ivl} (ha : IvlOk a) : meetL [a, b] = mt (nrm a) (nrm b) := by
  show mt (mt topI (nrm a)) (nrm b) = _
  rw [mt_top (nrm_ok ha)]
theorem meetL_from (l : List Ivl) : ∀ {x : Ivl}, Nrm x → (∀ a ∈ l, IvlOk a) → Nrm (l.foldl (fun o a => mt o (nrm a)) x) := by
  induction l with
  | nil => intro x h _; exact h
  | cons a l ih => intro x h hl; exact ih (mt_ok h (nrm_ok (hl a (by simp)))) fun b hb => hl b (by simp [hb])
theorem meetL_ok {l : List Ivl} (h : ∀ a ∈ l, IvlOk a) : Nrm (meetL l) := meetL_from l nrm_top h
theorem meetL_no (l : List Ivl) : l.foldl (fun o a => mt o (nrm a)) noIval = noIval := by
  induction l with
  | nil => rfl
  | cons a l ih => rw [List.foldl_cons, mt_nol, ih]

theorem leq_nrm {a b : Ivl} (ha : IvlOk a) : leqI a b = eqI (jn (nrm a) (nrm b)) (nrm b) := by unfold leqI; rw [joinL_two ha]

/-- One holds all of another. -/
def leN (x y : Ivl) : Prop := x.some = true → y.some = true ∧ y.lo ≤ x.lo ∧ x.hi ≤ y.hi
instance (x y : Ivl) : Decidable (leN x y) := inferInstanceAs (Decidable (_ → _))

theorem leN_iff {x y : Ivl} (hx : Nrm x) (hy : Nrm y) : eqI (jn x y) y = decide (leN x y) := by
  rw [Bool.eq_iff_iff, eqI_iff, decide_eq_true_iff]
  rcases hx with rfl | ⟨a, b, rfl, k1, k2, k3⟩
  · rw [jn_nol hy]; exact ⟨fun _ => fun h => absurd h (by decide), fun _ => rfl⟩
  · rcases hy with rfl | ⟨c, d, rfl, h1, h2, h3⟩
    · rw [jn_no]; exact ⟨fun h => (by have := congrArg Ivl.some h; cases this), fun h => (by have := (h rfl).1; cases this)⟩
    · rw [jn_is]
      constructor
      · intro h _
        have h1 := congrArg Ivl.lo h
        have h2 := congrArg Ivl.hi h
        simp only at h1 h2
        exact ⟨rfl, by show c ≤ a; omega, by show b ≤ d; omega⟩
      · intro h
        obtain ⟨_, h1, h2⟩ := h rfl
        simp only at h1 h2
        exact Ivl.ext' rfl (by show min a c = c; omega) (by show max b d = d; omega)

theorem leN_no {x y : Ivl} (h : (!x.some) = true) : decide (leN x y) = true := decide_eq_true fun h' => by rw [h'] at h; cases h
theorem leN_b {x y : Ivl} (hx : (!x.some) = false) (hy : y.some = false) : decide (leN x y) = false :=
  decide_eq_false fun h => by have := (h (by simpa using hx)).1; rw [hy] at this; cases this
theorem leN_lo {x y : Ivl} (hx : (!x.some) = false) (h : decide (y.lo ≤ x.lo) = false) : decide (leN x y) = false :=
  decide_eq_false fun h' => of_decide_eq_false h (h' (by simpa using hx)).2.1
theorem leN_hi {x y : Ivl} (hx : (!x.some) = false) (hy : y.some = true) (h : decide (y.lo ≤ x.lo) = true) : decide (leN x y) = decide (x.hi ≤ y.hi) := by
  rw [decide_eq_decide]
  exact ⟨fun h' => (h' (by simpa using hx)).2.2, fun h' _ => ⟨hy, of_decide_eq_true h, h'⟩⟩

theorem leqI_eq {a b : Ivl} (ha : IvlOk a) (hb : IvlOk b) : leqI a b = decide (leN (nrm a) (nrm b)) := by rw [leq_nrm ha, leN_iff (nrm_ok ha) (nrm_ok hb)]

theorem hasI_nrm (a : Ivl) (n : Int) : hasI a n = hasI (nrm a) n := by
  by_cases h : a.some = true ∧ a.lo ≤ a.hi
  · rw [show nrm a = a from if_pos h]
  · rw [nrm_no h]
    show _ = false
    unfold hasI
    cases hs : a.some with
    | false => rfl
    | true =>
      have hn : ¬ a.lo ≤ a.hi := fun k => h ⟨hs, k⟩
      simp only [Bool.true_and, Bool.and_eq_false_iff, decide_eq_false_iff_not]
      omega

/-- An interval's text. -/
def textN (a : Ivl) : List UInt8 := if eqI a noIval then [110, 111, 110, 101] else if eqI a topI then [97, 108, 108] else [91] ++ Lib.itoa a.lo ++ [44] ++ Lib.itoa a.hi ++ [93]
def textI (a : Ivl) : List UInt8 := textN (nrm a)

theorem itoa_big {n : Int} (h : n < -9) : Lib.itoa (n.tdiv 10) ++ Lib.itoa (-(n.tmod 10)) = Lib.itoa n := by
  obtain ⟨m, rfl⟩ : ∃ m : Nat, n = -(m : Int) := ⟨n.natAbs, by omega⟩
  have e1 : (-(m : Int)).tdiv 10 = -((m / 10 : Nat) : Int) := by rw [Int.neg_tdiv]; rfl
  have e2 : -((-(m : Int)).tmod 10) = ((m % 10 : Nat) : Int) := by rw [Int.neg_tmod]; show - -_ = _; rw [Int.neg_neg]; rfl
  rw [e1, e2]
  unfold Lib.itoa
  rw [if_pos (by omega), if_neg (by omega), if_pos (by omega)]
  simp only [Int.natAbs_neg, Int.natAbs_natCast, Int.toNat_natCast]
  rw [Lib.decDigits.eq_1 m, dif_neg (by omega), Lib.decDigits.eq_1 (m % 10), dif_pos (by omega)]
  rfl

theorem itoa_minus {n : Int} (h : n < 0) : [45] ++ Lib.itoa (-n) = Lib.itoa n := by
  unfold Lib.itoa
  rw [if_neg (by omega), if_pos h, show n.natAbs = (-n).toNat by omega]; rfl

theorem itoa_more {n : Int} (h : 10 ≤ n) : Lib.itoa (n.tdiv 10) ++ Lib.itoa (n.tmod 10) = Lib.itoa n := by
  obtain ⟨m, rfl⟩ : ∃ m : Nat, n = (m : Int) := ⟨n.toNat, by omega⟩
  have e1 : (m : Int).tdiv 10 = ((m / 10 : Nat) : Int) := rfl
  have e2 : (m : Int).tmod 10 = ((m % 10 : Nat) : Int) := rfl
  rw [e1, e2]
  unfold Lib.itoa
  rw [if_neg (by omega), if_neg (by omega), if_neg (by omega)]
  simp only [Int.toNat_natCast]
  rw [Lib.decDigits.eq_1 m, dif_neg (by omega), Lib.decDigits.eq_1 (m % 10), dif_pos (by omega)]

theorem itoa_one {n : Int} (h0 : 0 ≤ n) (h : n < 10) : Lib.itoa n = [UInt8.ofNat (48 + n.toNat)] := by
  unfold Lib.itoa
  rw [if_neg (by omega), Lib.decDigits.eq_1, dif_pos (by omega)]

end Go.Proofs.YtlolmemiedhhhaaDoor

/- Sums as trees, and their texts: plain Lean. -/
namespace Go.Proofs.YtlolmemiedhhhaaDoor
set_option linter.unusedVariables false
set_option linter.unusedSimpArgs false
open Go Go.RowKit SL

inductive Ex where
  | nil
  | node (k n : Int) (s : Txt) (a b : Ex)

def exV : Ex → V
  | .nil => .nil
  | .node k n s a b => .ref (.agg [.int .i64 k, .int .i64 n, .str s, exV a, exV b])

def ExOk : Ex → Prop
  | .nil => True
  | .node k n s a b => isI64 k ∧ isI64 n ∧ ExOk a ∧ ExOk b

def szE : Ex → Nat
  | .nil => 0
  | .node _ _ _ a b => 1 + szE a + szE b
def shortE : Ex → Prop
  | .nil => True
  | .node _ _ s a b => s.length ≤ 50 ∧ shortE a ∧ shortE b

/-- What the law's help counts. -/
def lightE : Ex → Int → Int → Bool × Int
  | .nil, l, _ => (true, l)
  | .node k n s a b, l, d =>
    if l - 1 < 0 ∨ d < 0 ∨ 50 < s.length then (false, l - 1)
    else if (lightE a (l - 1) (d - 1)).1 then lightE b (lightE a (l - 1) (d - 1)).2 (d - 1) else (false, (lightE a (l - 1) (d - 1)).2)

theorem light_low : ∀ (e : Ex) (l d : Int), 0 ≤ l → -1 ≤ (lightE e l d).2 ∧ (lightE e l d).2 ≤ l ∧ ((lightE e l d).1 = true → 0 ≤ (lightE e l d).2)
  | .nil, l, d, h => by simp only [lightE]; omega
  | .node k n s a b, l, d, h => by
    rw [lightE]
    split
    · simp; omega
    · rename_i hc
      have hl : 0 ≤ l - 1 := by omega
      obtain ⟨h1, h2, h3⟩ := light_low a (l - 1) (d - 1) hl
      split
      · rename_i ht
        obtain ⟨h4, h5, h6⟩ := light_low b (lightE a (l - 1) (d - 1)).2 (d - 1) (h3 ht)
        exact ⟨h4, by omega, h6⟩
      · simp; omega
theorem light_fits : ∀ (e : Ex) (l d : Int), 0 ≤ l → (lightE e l d).1 = true → shortE e ∧ (lightE e l d).2 = l - szE e
  | .nil, l, d, h, ht => by simp [lightE, shortE, szE]
  | .node k n s a b, l, d, h, ht => by
    rw [lightE] at ht ⊢
    split at ht
    · simp at ht
    · rename_i hc
      rw [if_neg hc]
      have hl : 0 ≤ l - 1 := by omega
      split at ht
      · rename_i ha
        rw [if_pos ha]
        obtain ⟨h1, h2⟩ := light_fits a (l - 1) (d - 1) hl ha
        obtain ⟨_, _, h3⟩ := light_low a (l - 1) (d - 1) hl
        obtain ⟨h4, h5⟩ := light_fits b _ (d - 1) (h3 ha) ht
        refine ⟨⟨by omega, h1, h4⟩, ?_⟩
        rw [h5, h2, szE]; omega
      · simp at ht

def nilE : Ex → Bool
  | .nil => true
  | _ => false
theorem isNil_ex (a : Ex) : D.isNil (.val (exV a)) = some (nilE a) := by cases a <;> rfl
theorem nil_of {a : Ex} (h : nilE a = true) : a = .nil := by cases a <;> simp_all [nilE]

/-- A tree such as a text tells. -/
def rightE : Ex → Bool
  | .nil => false
  | .node k n s a b =>
    if k = 0 then decide (n ≥ 0) && (nilE a && (nilE b && (s == [])))
    else if k = 1 then (!(s == [])) && (nilE a && (nilE b && (n == 0)))
    else if k = 7 then rightE a && (nilE b && ((n == 0) && (s == [])))
    else if k = 2 ∨ k = 3 ∨ k = 4 ∨ k = 5 ∨ k = 6 then rightE a && (rightE b && ((n == 0) && (s == [])))
    else false
theorem right0 {k n : Int} {s : Txt} {a b : Ex} (h : k = 0) : rightE (.node k n s a b) = (decide (n ≥ 0) && (nilE a && (nilE b && (s == [])))) := by rw [rightE, if_pos h]
theorem right1 {k n : Int} {s : Txt} {a b : Ex} (h : k = 1) : rightE (.node k n s a b) = ((!(s == [])) && (nilE a && (nilE b && (n == 0)))) := by rw [rightE, if_neg (by omega), if_pos h]
theorem right7 {k n : Int} {s : Txt} {a b : Ex} (h : k = 7) : rightE (.node k n s a b) = (rightE a && (nilE b && ((n == 0) && (s == [])))) := by rw [rightE, if_neg (by omega), if_neg (by omega), if_pos h]
theorem rightB {k n : Int} {s : Txt} {a b : Ex} (h : k = 2 ∨ k = 3 ∨ k = 4 ∨ k = 5 ∨ k = 6) : rightE (.node k n s a b) = (rightE a && (rightE b && ((n == 0) && (s == [])))) := by
  rw [rightE, if_neg (by omega), if_neg (by omega), if_neg (by omega), if_pos h]
theorem rightN {k n : Int} {s : Txt} {a b : Ex} (h : k ≠ 0 ∧ k ≠ 1 ∧ k ≠ 7 ∧ k ≠ 2 ∧ k ≠ 3 ∧ k ≠ 4 ∧ k ≠ 5 ∧ k ≠ 6) : rightE (.node k n s a b) = false := by
  rw [rightE, if_neg (by omega), if_neg (by omega), if_neg (by omega), if_neg (by omega)]

def lvl (k : Int) : Int := if k = 2 ∨ k = 3 then 1 else if k = 4 ∨ k = 5 ∨ k = 6 then 2 else if k = 7 then 3 else 4
def signT (k : Int) : Txt := if k = 2 then [32, 43, 32] else if k = 3 then [32, 45, 32] else if k = 4 then [32, 42, 32] else if k = 5 then [32, 47, 32] else [32, 37, 32]
theorem lv1 {k : Int} (h : k = 2 ∨ k = 3) : (1 : Int) = lvl k := by unfold lvl; rw [if_pos h]
theorem lv2 {k : Int} (h : k = 4 ∨ k = 5 ∨ k = 6) : (2 : Int) = lvl k := by unfold lvl; rw [if_neg (by omega), if_pos h]
theorem lv3 {k : Int} (h : k = 7) : (3 : Int) = lvl k := by subst h; rfl
theorem lv4 {k : Int} (h : k ≠ 2 ∧ k ≠ 3 ∧ k ≠ 4 ∧ k ≠ 5 ∧ k ≠ 6 ∧ k ≠ 7) : (4 : Int) = lvl k := by unfold lvl; rw [if_neg (by omega), if_neg (by omega), if_neg (by omega)]
theorem lvl_range (k : Int) : 1 ≤ lvl k ∧ lvl k ≤ 4 := by unfold lvl; split; omega; split; omega; split <;> omega
theorem lvl_two {k : Int} (h : lvl k = 2) : 4 ≤ k ∧ k ≤ 6 := by
  unfold lvl at h
  split at h
  · omega
  · split at h
    · omega
    · split at h <;> omega
theorem lvl_low {k : Int} (h : lvl k < 3) : 2 ≤ k ∧ k ≤ 6 := by
  unfold lvl at h
  split at h
  · omega
  · split at h
    · omega
    · split at h <;> omega
theorem low_eq {k : Int} (h : k ≠ 2) : (k == 3) = decide (lvl k < 2) := by
  by_cases h3 : k = 3
  · subst h3; rfl
  · rw [show (k == 3) = false by simpa using h3, decide_eq_false]
    unfold lvl; rw [if_neg (by omega)]; split
    · omega
    · split <;> omega
theorem high_eq {k : Int} (h : 4 ≤ k) : decide (k ≤ 6) = decide (lvl k = 2) := decide_eq_decide.mpr ⟨fun h6 => (lv2 (by omega)).symm, fun e => (lvl_two e).2⟩
theorem neg_eq {k : Int} (h : 2 ≤ k) : decide (k ≤ 6) = decide (lvl k < 3) := decide_eq_decide.mpr ⟨fun h6 => by
    unfold lvl; split
    · omega
    · rw [if_pos (by omega)]; omega, fun e => (lvl_low e).2⟩
theorem eqi_tt {a b : Int} (h : (a == b) = true) : a = b := by simpa using h
theorem eqi_ff {a b : Int} (h : (a == b) = false) : a ≠ b := by simpa using h
def lvlE : Ex → Int
  | .nil => 4
  | .node k _ _ _ _ => lvl k
def wrapT (b : Bool) (t : Txt) : Txt := if b then [40] ++ t ++ [41] else t
def itoaT (n : Int) : Txt := Lib.itoa n

/-- A sum's text. -/
def prE : Ex → Txt
  | .nil => []
  | .node k n s a b =>
    if k = 7 then [45] ++ wrapT (decide (lvlE a < 3)) (prE a)
    else if lvl k ≤ 2 then wrapT (decide (lvlE a < lvl k)) (prE a) ++ signT k ++ wrapT (decide (lvlE b < lvl k + 1)) (prE b)
    else if k = 1 then s
    else itoaT n

theorem wrap_len (b : Bool) (t : Txt) : (wrapT b t).length ≤ t.length + 2 := by cases b <;> simp [wrapT]
theorem sign_len (k : Int) : (signT k).length = 3 := by unfold signT; repeat' (first | rfl | split)
theorem prE_len : ∀ (e : Ex), ExOk e → shortE e → (prE e).length ≤ 60 * szE e
  | .nil, _, _ => by simp [prE]
  | .node k n s a b, ho, hs => by
    obtain ⟨h1, h2, h3, h4⟩ := ho
    obtain ⟨s1, s2, s3⟩ := hs
    have ha := prE_len a h3 s2
    have hb := prE_len b h4 s3
    have w1 := fun x => wrap_len x (prE a)
    have w2 := fun x => wrap_len x (prE b)
    rw [prE, szE]
    split
    · have := w1 (decide (lvlE a < 3)); simp only [List.length_append, List.length_cons, List.length_nil]; omega
    · split
      · have e1 := w1 (decide (lvlE a < lvl k)); have e2 := w2 (decide (lvlE b < lvl k + 1)); have e3 := sign_len k
        simp only [List.length_append]; omega
      · split
        · omega
        · have : (Lib.itoa n).length ≤ 21 := Lib.itoa_length_le n h2.1 h2.2
          show (Lib.itoa n).length ≤ _; omega

end Go.Proofs.YtlolmemiedhhhaaDoor

/- The shelf's contracts of strings.Join and strings.Builder, laid at this program. -/
namespace Go.Proofs.YtlolmemiedhhhaaDoor
open Go Go.RowKit Go.Shelf
set_option linter.unusedVariables false
def join_ren : Go.Shelf.Ren := ⟨fun n => if n = 156 then 75 else if n = 165 then 100 else if n = 166 then 86 else if n = 169 then 61 else if n = 240 then 104 else if n = 241 then 117 else if n = 276 then 120 else if n = 277 then 128 else 0, fun n => if n = 0 then 0 else if n = 3 then 3 else if n = 4 then 4 else if n = 5 then 5 else if n = 9 then 9 else if n = 20 then 20 else if n = 31 then 57 else if n = 37 then 28 else if n = 70 then 109 else if n = 72 then 111 else if n = 75 then 143 else if n = 76 then 144 else if n = 80 then 73 else if n = 127 then 149 else if n = 164 then 182 else 0, fun n =>  0⟩
theorem join_lays : Lays.n156 Tryd.prog join_ren :=
  { mixed := by kernel_rfl,
    f156 := (Tryd.func75).trans (congrArg some (by kernel_rfl)),
    f165 := (Tryd.func100).trans (congrArg some (by kernel_rfl)),
    f166 := (Tryd.func86).trans (congrArg some (by kernel_rfl)),
    f169 := (Tryd.func61).trans (congrArg some (by kernel_rfl)),
    f240 := (Tryd.func104).trans (congrArg some (by kernel_rfl)),
    f241 := (Tryd.func117).trans (congrArg some (by kernel_rfl)),
    f276 := (Tryd.func120).trans (congrArg some (by kernel_rfl)),
    f277 := (Tryd.func128).trans (congrArg some (by kernel_rfl)),
    t0 := Tryd.underlying0,
    a0 := Tryd.isAgg0,
    z0 := Tryd.sizeOf0,
    v0 := Tryd.zeroValue0,
    t3 := Tryd.underlying3,
    a3 := Tryd.isAgg3,
    z3 := Tryd.sizeOf3,
    v3 := Tryd.zeroValue3,
    t4 := Tryd.underlying4,
    a4 := Tryd.isAgg4,
    z4 := Tryd.sizeOf4,
    v4 := Tryd.zeroValue4,
    t9 := Tryd.underlying9,
    a9 := Tryd.isAgg9,
    z9 := Tryd.sizeOf9,
    v9 := Tryd.zeroValue9,
    t20 := Tryd.underlying20,
    a20 := Tryd.isAgg20,
    z20 := Tryd.sizeOf20,
    v20 := Tryd.zeroValue20,
    t31 := Tryd.underlying57,
    a31 := Tryd.isAgg57,
    z31 := Tryd.sizeOf57,
    v31 := Tryd.zeroValue57,
    t37 := Tryd.underlying28,
    a37 := Tryd.isAgg28,
    z37 := Tryd.sizeOf28,
    v37 := Tryd.zeroValue28,
    t70 := Tryd.underlying109,
    a70 := Tryd.isAgg109,
    z70 := Tryd.sizeOf109,
    v70 := Tryd.zeroValue109,
    t72 := Tryd.underlying111,
    a72 := Tryd.isAgg111,
    z72 := Tryd.sizeOf111,
    v72 := Tryd.zeroValue111,
    t75 := Tryd.underlying143,
    a75 := Tryd.isAgg143,
    z75 := Tryd.sizeOf143,
    v75 := Tryd.zeroValue143,
    t76 := Tryd.underlying144,
    a76 := Tryd.isAgg144,
    z76 := Tryd.sizeOf144,
    v76 := Tryd.zeroValue144,
    t127 := Tryd.underlying149,
    a127 := Tryd.isAgg149,
    z127 := Tryd.sizeOf149,
    v127 := Tryd.zeroValue149,
    t164 := Tryd.underlying182,
    a164 := Tryd.isAgg182,
    z164 := Tryd.sizeOf182,
    v164 := Tryd.zeroValue182 }
theorem join_lays2 : Builder.Extra Tryd.prog join_ren :=
  { sizeBuilder := by kernel_rfl,
    liesBuilder := by kernel_rfl,
    t5 := Tryd.underlying5,
    a5 := Tryd.isAgg5,
    z5 := Tryd.sizeOf5,
    v5 := Tryd.zeroValue5,
    infoByte := by kernel_rfl,
    cellsByte := by kernel_rfl,
    sizeByte := by kernel_rfl,
    neB5 := by decide }
end Go.Proofs.YtlolmemiedhhhaaDoor

/- Go's strings.Builder, at the head of whatever block, as contracts of the program logic. -/
namespace Go.Proofs.YtlolmemiedhhhaaDoor
set_option linter.unusedVariables false
set_option linter.unusedSimpArgs false
open Go Go.RowKit SL Go.Shelf

/-- What must be true of a block's type for a builder to lie at its head. -/
def BuilderIn (T n : Nat) : Prop := liesAt Tryd.prog Tryd.prog.depth T (n / Tryd.prog.cellsOf T) 0 111 1 = true ∧ 0 < n

set_option maxHeartbeats 1000000 in
set_option maxRecDepth 100000 in
theorem copyCheck_used (b : Nat) (w : World) (h0 : w.cell? ⟨b, 0, none⟩ = some (.pointer (some ⟨b, 0, none⟩))) :
    Calls Tryd.prog 104 #[.pointer (some ⟨b, 0, none⟩)] w fun e w' => e = .returned (.tuple #[]) ∧ w' = w := by
  obtain ⟨j, hj, _⟩ := Option.map_eq_some_iff.1 join_lays2.sizeBuilder
  go_enter Tryd.func104, Tryd.ntmps104
  go_wp2
  rw [Lib.run_neq_ptr_same w _ Tryd.underlying109 hj]
  go_wp2
  go_end0
  exact ⟨rfl, rfl⟩

set_option maxHeartbeats 1000000 in
set_option maxRecDepth 100000 in
theorem copyCheck_fresh (T n b : Nat) (hT : BuilderIn T n) (w : World) (h0 : w.cell? ⟨b, 0, none⟩ = some (.pointer none)) (hsh : w.shape? b = some (T, n)) (hfz : w.frozen? ⟨b, 0, none⟩ = false) :
    Calls Tryd.prog 104 #[.pointer (some ⟨b, 0, none⟩)] w fun e w' => e = .returned (.tuple #[]) ∧ w' = w.setCell ⟨b, 0, none⟩ (.pointer (some ⟨b, 0, none⟩)) := by
  obtain ⟨j, hj, hjs⟩ := Option.map_eq_some_iff.1 join_lays2.sizeBuilder
  go_enter Tryd.func104, Tryd.ntmps104
  go_wp2
  rw [Lib.run_to_unsafe w ⟨b, 0, none⟩ Tryd.underlying109 Tryd.underlying182 hj (by rw [hjs]; decide) hsh hT.2]
  simp only [Result.andThen]
  rw [Oper.upon_value]
  go_wp2
  rw [run_callFunc_extern Tryd.func120 (by kernel_rfl) (by kernel_rfl) (by kernel_rfl) (e := Extern.AbiNoEscape.same) (by kernel_rfl)]
  rw [Lib.run_noEscape]
  simp only [Result.andThen]
  rw [Oper.upon_value]
  go_wp2
  rw [Lib.run_from_unsafe w ⟨b, 0, none⟩ Tryd.underlying182 Tryd.underlying109 hj hsh hT.1]
  simp only [Result.andThen]
  rw [Oper.upon_value]
  go_wp2
  go_end0
  exact ⟨rfl, rfl⟩

theorem arg1' {C : Imm} {vs : Array Value} {d : D} (h : RepDs C vs [d]) : ∃ v, vs = #[v] ∧ RepD C v d := by
  obtain ⟨hsz, hv⟩ := h
  have h0 := hv 0 (by simp)
  refine ⟨vs.getD 0 undef, ?_, h0⟩
  apply Array.ext
  · exact hsz
  · intro i hi1 hi2
    have : i = 0 := by simp at hi2; omega
    subst this
    simp [Array.getD_eq_getD_getElem?, hi1]

/-- copyCheck: behind it the builder holds its own address. -/
theorem copyCheck_ok (q T n : Nat) (hT : BuilderIn T n) (a : D) (ha : a = .val .nil ∨ a = .ptr q 0) (rest : List D) (σ : List Chunk) :
    FSpec Tryd.prog 104 [.ptr q 0] (.ty q T n :: .blk q (a :: rest) :: σ) (fun d σ' => d = .tup [] ∧ σ' = .ty q T n :: .blk q (.ptr q 0 :: rest) :: σ) := fun G vs w hi hr => by
  obtain ⟨v, rfl, h0⟩ := arg1' hr
  have hv := rep_ptr h0
  subst hv
  have hi2 : Inv G (.blk q (a :: rest) :: .ty q T n :: σ) w := hi.perm (List.Perm.swap _ _ _)
  obtain ⟨cs, ty, fz, hq, h1, h2, h3⟩ := (show (Chunk.blk q (a :: rest)).holds G.C w from hi2.holds _ (List.mem_cons_self ..))
  obtain ⟨cs', fz', hq', hn⟩ := (show (Chunk.ty q T n).holds G.C w from hi.holds _ (List.mem_cons_self ..))
  rw [hq] at hq'; cases hq'
  have hpos : 0 < cs.size := by rw [h2]; simp
  have hc0 : w.cell? ⟨q, 0, none⟩ = some (cs.getD 0 undef) := by
    simp only [World.cell?, hq, Array.getD_eq_getD_getElem?, Array.getElem?_eq_getElem hpos, Option.getD_some]; rfl
  have hr0 := h3 0 (by simp)
  rcases ha with rfl | rfl
  · have hnil : cs.getD 0 undef = .pointer none := by
      generalize cs.getD 0 undef = x at hr0
      cases (show RepD G.C x (.val .nil) from hr0) with
      | val _ _ h => cases h; rfl
    rw [hnil] at hc0
    have hfz : w.frozen? ⟨q, 0, none⟩ = false := by
      simp only [World.frozen?, hq]
      have := h1 0 hpos
      simp; omega
    have hsh : w.shape? q = some (T, n) := by simp only [World.shape?, hq, hn]
    refine (copyCheck_fresh T n q hT w hc0 hsh hfz).mono fun e w' he => ?_
    obtain ⟨rfl, rfl⟩ := he
    have hnew : (w.setCell ⟨q, 0, none⟩ (.pointer (some ⟨q, 0, none⟩))).heap[q]? = some (.cells (cs.setIfInBounds 0 (.pointer (some ⟨q, 0, none⟩))) T fz) := by
      rw [Go.Sort.setCell_eq]
      simp [Go.Sort.mapBlock, Array.getElem?_modify, hq, Go.Sort.onCells]
    refine ⟨G, _, _, G.le_refl, ?_, .tup #[] [] rfl (fun k hk => absurd hk (by simp)), rfl, rfl⟩
    refine Inv.perm ?_ (List.Perm.swap _ _ _)
    refine hi2.change (c' := .blk q (.ptr q 0 :: rest)) (b := q) rfl (fun x hx => (Option.some.inj hx).symm) G.le_refl (fun _ _ _ h => .inl h) rfl rfl rfl ?_ (fun k hk => ?_) (fun o v hv => ?_) ⟨_, T, fz, hnew, ?_, ?_, fun k hk => ?_⟩ (fun x o h => hi2.apart (.blk q (.val .nil :: rest)) (List.mem_cons_self ..) x o h) (fun t0 c0 f0 h0 => by rw [hq] at h0; cases h0; exact ⟨_, _, hnew, by simp⟩)
    · rw [Go.Sort.setCell_eq]; simp [Go.Sort.mapBlock]
    · rw [Go.Sort.setCell_eq]
      have : q ≠ k := fun e => hk e.symm
      simp [Go.Sort.mapBlock, Array.getElem?_modify, this]
    · have := hi2.apart (.blk q (.val .nil :: rest)) (List.mem_cons_self ..) q o (show q = q from rfl)
      rw [this] at hv; cases hv
    · simpa using h1
    · simpa using h2
    · cases k with
      | zero =>
        have e : (cs.setIfInBounds 0 (.pointer (some ⟨q, 0, none⟩))).getD 0 undef = .pointer (some ⟨q, 0, none⟩) := by
          rw [Array.getD_eq_getD_getElem?, Array.getElem?_setIfInBounds]; simp [hpos]
        rw [e]; exact .ptr q 0
      | succ k =>
        have e : (cs.setIfInBounds 0 (.pointer (some ⟨q, 0, none⟩))).getD (k + 1) undef = cs.getD (k + 1) undef := by
          rw [Array.getD_eq_getD_getElem?, Array.getElem?_setIfInBounds, Array.getD_eq_getD_getElem?]; simp
        rw [e]
        exact h3 (k + 1) (by simpa using hk)
  · have hp := rep_ptr (show RepD G.C _ (.ptr q 0) from hr0)
    rw [hp] at hc0
    refine (copyCheck_used q w hc0).mono fun e w' he => ?_
    obtain ⟨rfl, rfl⟩ := he
    exact ⟨G, _, _, G.le_refl, hi, .tup #[] [] rfl (fun k hk => absurd hk (by simp)), rfl, rfl⟩

set_option maxHeartbeats 2000000 in
set_option maxRecDepth 100000 in
theorem builderString (b g n c cells : Nat) (l : List UInt8) (h0 : l ≠ []) (w : World) (h1 : w.cell? ⟨b, 1, none⟩ = some (.slice (some ⟨g, 0, none⟩) n c)) (hn : n = l.length) (hc : n ≤ c) (hsh : w.shape? g = some (5, cells)) (hcells : c ≤ cells) (hl : l.length ≤ 100000000)
    (hb : ∀ j x, l[j]? = some x → w.cell? ⟨g, j, none⟩ = some (.int .u8 x.toNat)) :
    Calls Tryd.prog 61 #[.pointer (some ⟨b, 0, none⟩)] w fun e w' => e = .returned (.string ⟨l.toArray⟩) ∧ ∃ k, w' = (w.drewN k).freeze ⟨g, 0, none⟩ l.length := by
  subst hn
  have hl0 : l.length ≠ 0 := by simpa using h0
  have c1 : w.drew.cell? ⟨b, 1, none⟩ = some (.slice (some ⟨g, 0, none⟩) l.length c) := h1
  have hSD : (Builtin.unsafeSliceData_ #[28] 149 #[.slice (some ⟨g, 0, none⟩) l.length c]).run Tryd.prog w.drew = .ok (.pointer (some ⟨g, 0, none⟩)) w.drew :=
    Lib.run_unsafeSliceData_row _ _ _ _ _ _ (by omega)
  have hUS : (Builtin.unsafeString_ #[149, 3] 9 #[.pointer (some ⟨g, 0, none⟩), .int .i64 l.length]).run Tryd.prog w.drew = .ok (.string ⟨l.toArray⟩) (w.drew.freeze ⟨g, 0, none⟩ l.length) := by
    refine Lib.run_unsafeString_row w.drew 149 3 9 5 Tryd.underlying149 join_lays2.cellsByte g cells hsh l h0 (by omega) (by omega) ?_
    intro j x hx
    have := hb j x hx
    rw [SL.addr_add, Nat.zero_add]; exact this
  go_enter Tryd.func61, Tryd.ntmps61
  go_wp2
  go_region
  all_goals (go_wp2; go_ret; exact ⟨rfl, 1, rfl⟩)

/-- String: the text; nobody has the builder any more. -/
theorem bstring_ok (q : Nat) (a : D) (v : Value) (l : List UInt8) (rest : List D) (σ : List Chunk) (h0 : l ≠ []) (hl : l.length ≤ 100000000) :
    FSpec Tryd.prog 61 [.ptr q 0] (.blk q (a :: .own v (l.map byteV) :: rest) :: .row v 1 5 :: σ) (fun d σ' => d = .val (.str l) ∧ σ' = σ) := fun G vs w hi hr => by
  obtain ⟨u, rfl, hu⟩ := arg1' hr
  have huv := rep_ptr hu
  subst huv
  have hi2 : Inv G (.row v 1 5 :: .blk q (a :: .own v (l.map byteV) :: rest) :: σ) w := hi.perm (List.Perm.swap _ _ _)
  obtain ⟨cs, ty, fz, hq, h1, h2, h3⟩ := (show (Chunk.blk q (a :: .own v (l.map byteV) :: rest)).holds G.C w from hi.holds _ (List.mem_cons_self ..))
  obtain ⟨ad, n, c, hv, hnc, hrow⟩ := (show (Chunk.row v 1 5).holds G.C w from hi2.holds _ (List.mem_cons_self ..))
  subst hv
  have hq1 : 1 < cs.size := by rw [h2]; simp
  have hr1 := h3 1 (by simp)
  generalize hx : cs.getD 1 undef = x at hr1
  cases (show RepD G.C x (.own (.slice ad n c) (l.map byteV)) from hr1) with
  | own _ _ hrep =>
    have hc1 : w.cell? ⟨q, 1, none⟩ = some (.slice ad n c) := by
      simp only [World.cell?, hq]
      rw [Array.getD_eq_getD_getElem?, Array.getElem?_eq_getElem hq1] at hx
      rw [show cs[1]? = some cs[1] from Array.getElem?_eq_getElem hq1]
      simp at hx
      simp [hx]
    obtain ⟨hn, _, vs, hC, hrr⟩ := cells_of_list (sz := 1) hrep (fun y hy => (byteV_cells l y hy).1)
    have hnl : n = l.length := by rw [hn]; simp
    have hnpos : 0 < n := by rw [hnl]; exact List.length_pos_iff.mpr h0
    rcases hrow with hc0 | ⟨g, cs2, fz2, rfl, hg, hg1, hg2⟩
    · omega
    · have hcells : ∀ j x, l[j]? = some x → w.cell? ⟨g, j, none⟩ = some (.int .u8 x.toNat) := fun j x hx => by
        have hj := (List.getElem?_eq_some_iff.mp hx).1
        have hfl : ∀ m : List UInt8, (m.map byteV).flatMap V.cells = m.map byteV := fun m => by
          induction m with
          | nil => rfl
          | cons y m ih => rw [List.map_cons, List.flatMap_cons, ih]; rfl
        have h5 := hC g 0 j rfl (by simpa using hj)
        have h6 := hrr j (byteV x) (by rw [hfl l, List.getElem?_map, hx]; rfl)
        have h7 := hi.agree _ _ _ h5
        rw [Nat.zero_add, rep_int (.val _ _ h6)] at h7
        exact h7
      refine (builderString q g n c cs2.size l h0 w hc1 hnl hnc (by simp only [World.shape?, hg]) (by omega) hl hcells).mono fun e w' he => ?_
      obtain ⟨rfl, k, rfl⟩ := he
      have hb : (Chunk.row (.slice (some ⟨g, 0, none⟩) n c) 1 5).b? = some g := by simp only [Chunk.b?]; rw [if_neg (by omega)]
      have hne := hi2.ne_head hb
      refine ⟨G, _, σ, G.le_refl, ?_, .val _ _ (.str ⟨l.toArray⟩), rfl, rfl⟩
      have hiσ : Inv G σ (w.drewN k) := hi.drop.drop.of_below ⟨rfl, rfl, rfl, Nat.le_refl _, fun _ _ => rfl⟩
      have hg' : (w.drewN k).heap[g]? = some (.cells cs2 5 fz2) := hg
      have hl0 : l.length ≠ 0 := by omega
      obtain ⟨fz3, hnew⟩ : ∃ fz3, ((w.drewN k).freeze ⟨g, 0, none⟩ l.length).heap[g]? = some (.cells cs2 5 fz3) := by
        obtain ⟨lo, hi⟩ := fz2
        unfold World.freeze
        rw [if_neg hl0]
        exact ⟨_, by simp only [Array.getElem?_modify, if_true, hg', Option.map_some]; rfl⟩
      refine inv_other hiσ (b := g) (fun x hx => hne x (List.mem_cons_of_mem _ hx)) (hi2.fresh _ (List.mem_cons_self ..) g hb) ?_ ?_ ?_ ?_ (fun k' hk => ?_) (fun o => ?_) (fun t cs0 fz0 h0 => ?_)
      · unfold World.freeze; rw [if_neg hl0]
      · unfold World.freeze; rw [if_neg hl0]
      · unfold World.freeze; rw [if_neg hl0]
      · unfold World.freeze; rw [if_neg hl0]; simp
      · unfold World.freeze; rw [if_neg hl0]
        have : g ≠ k' := fun e => hk e.symm
        simp [Array.getElem?_modify, this]
      · simp only [World.cell?, hnew, hg']
      · rw [hg'] at h0; cases h0; exact ⟨_, _, hnew, rfl⟩

/-- strings.Join of nothing. -/
theorem join_none (sep : List UInt8) (σ : List Chunk) : FSpec Tryd.prog 75 [.val (.list []), .val (.str sep)] σ (fun d σ' => d = .val (.str []) ∧ σ' = σ) := fun G vs w hi hr => by
  obtain ⟨hsz, hv⟩ := hr
  have h0 := hv 0 (by simp)
  have h1 := hv 1 (by simp)
  obtain ⟨t, ht, ht'⟩ := rep_str h1
  obtain ⟨a, cap, hsv⟩ : ∃ (a : Option Addr) (cap : Nat), vs.getD 0 undef = .slice a 0 cap := by
    generalize vs.getD 0 undef = x at h0
    cases (show RepD G.C x (.val (.list [])) from h0) with
    | val _ _ h => obtain ⟨a, c, h1, _⟩ := rep_list_len h; exact ⟨a, c, h1⟩
  have hvs : vs = #[.slice a 0 cap, .string t] := by
    apply Array.ext
    · exact hsz
    · intro i hi1 hi2
      have : i = 0 ∨ i = 1 := by simp at hi2; omega
      rcases this with rfl | rfl
      · simpa [Array.getD_eq_getD_getElem?, hi1] using hsv
      · simpa [Array.getD_eq_getD_getElem?, hi1] using ht
  subst hvs
  refine (Any.strings_Join_none join_lays join_lays2 a cap t w).mono fun e w' he => ?_
  obtain ⟨rfl, rfl⟩ := he
  exact ⟨G, _, _, G.le_refl, hi, .val _ _ (.str ⟨#[]⟩), rfl, rfl⟩
end Go.Proofs.YtlolmemiedhhhaaDoor

/- The shelf's contract of a number's text, laid at this program. -/
namespace Go.Proofs.YtlolmemiedhhhaaDoor
open Go Go.RowKit SL Go.Shelf
def fmtInt_ren : Go.Shelf.Ren := ⟨fun n => if n = 129 then 111 else if n = 173 then 31 else if n = 246 then 62 else if n = 283 then 90 else if n = 284 then 91 else if n = 285 then 92 else if n = 286 then 93 else if n = 317 then 110 else if n = 318 then 112 else if n = 319 then 113 else if n = 320 then 114 else if n = 337 then 124 else if n = 338 then 125 else 0, fun n => if n = 0 then 0 else if n = 2 then 2 else if n = 3 then 3 else if n = 4 then 4 else if n = 5 then 5 else if n = 9 then 9 else if n = 20 then 20 else if n = 37 then 28 else if n = 46 then 169 else if n = 51 then 176 else if n = 53 then 121 else if n = 171 then 150 else if n = 173 then 153 else if n = 212 then 175 else if n = 213 then 177 else if n = 232 then 194 else if n = 233 then 195 else 0, fun n => if n = 17 then 0 else if n = 18 then 1 else if n = 19 then 2 else 0⟩
theorem fmtInt_lays : LaysM.n173 Tryd.prog fmtInt_ren :=
  { mixed := by kernel_rfl,
    f129 := (Tryd.func111).trans (congrArg some (by kernel_rfl)),
    f173 := (Tryd.func31).trans (congrArg some (by kernel_rfl)),
    f246 := (Tryd.func62).trans (congrArg some (by kernel_rfl)),
    f283 := (Tryd.func90).trans (congrArg some (by kernel_rfl)),
    f284 := (Tryd.func91).trans (congrArg some (by kernel_rfl)),
    f285 := (Tryd.func92).trans (congrArg some (by kernel_rfl)),
    f286 := (Tryd.func93).trans (congrArg some (by kernel_rfl)),
    f317 := (Tryd.func110).trans (congrArg some (by kernel_rfl)),
    f318 := (Tryd.func112).trans (congrArg some (by kernel_rfl)),
    f319 := (Tryd.func113).trans (congrArg some (by kernel_rfl)),
    f320 := (Tryd.func114).trans (congrArg some (by kernel_rfl)),
    f337 := (Tryd.func124).trans (congrArg some (by kernel_rfl)),
    f338 := (Tryd.func125).trans (congrArg some (by kernel_rfl)),
    t0 := Tryd.underlying0,
    a0 := Tryd.isAgg0,
    z0 := Tryd.sizeOf0,
    v0 := Tryd.zeroValue0,
    t2 := Tryd.underlying2,
    a2 := Tryd.isAgg2,
    z2 := Tryd.sizeOf2,
    v2 := Tryd.zeroValue2,
    t3 := Tryd.underlying3,
    a3 := Tryd.isAgg3,
    z3 := Tryd.sizeOf3,
    v3 := Tryd.zeroValue3,
    t4 := Tryd.underlying4,
    a4 := Tryd.isAgg4,
    z4 := Tryd.sizeOf4,
    v4 := Tryd.zeroValue4,
    t5 := Tryd.underlying5,
    a5 := Tryd.isAgg5,
    z5 := Tryd.sizeOf5,
    v5 := Tryd.zeroValue5,
    t9 := Tryd.underlying9,
    a9 := Tryd.isAgg9,
    z9 := Tryd.sizeOf9,
    v9 := Tryd.zeroValue9,
    t20 := Tryd.underlying20,
    a20 := Tryd.isAgg20,
    z20 := Tryd.sizeOf20,
    v20 := Tryd.zeroValue20,
    t37 := Tryd.underlying28,
    a37 := Tryd.isAgg28,
    z37 := Tryd.sizeOf28,
    v37 := Tryd.zeroValue28,
    t46 := Tryd.underlying169,
    a46 := Tryd.isAgg169,
    z46 := Tryd.sizeOf169,
    v46 := Tryd.zeroValue169,
    t51 := Tryd.underlying176,
    a51 := Tryd.isAgg176,
    z51 := Tryd.sizeOf176,
    v51 := Tryd.zeroValue176,
    t53 := Tryd.underlying121,
    a53 := Tryd.isAgg121,
    z53 := Tryd.sizeOf121,
    v53 := Tryd.zeroValue121,
    t171 := Tryd.underlying150,
    a171 := Tryd.isAgg150,
    z171 := Tryd.sizeOf150,
    v171 := Tryd.zeroValue150,
    t173 := Tryd.underlying153,
    a173 := Tryd.isAgg153,
    z173 := Tryd.sizeOf153,
    v173 := Tryd.zeroValue153,
    t212 := Tryd.underlying175,
    a212 := Tryd.isAgg175,
    z212 := Tryd.sizeOf175,
    v212 := Tryd.zeroValue175,
    t213 := Tryd.underlying177,
    a213 := Tryd.isAgg177,
    z213 := Tryd.sizeOf177,
    t232 := Tryd.underlying194,
    a232 := Tryd.isAgg194,
    z232 := Tryd.sizeOf194,
    v232 := Tryd.zeroValue194,
    t233 := Tryd.underlying195,
    a233 := Tryd.isAgg195,
    z233 := Tryd.sizeOf195,
    v233 := Tryd.zeroValue195,
    g17 := by kernel_rfl,
    g18 := by kernel_rfl,
    g19 := by kernel_rfl,
    i0 := by kernel_rfl,
    i2 := by kernel_rfl,
    i3 := by kernel_rfl,
    i4 := by kernel_rfl,
    i5 := by kernel_rfl,
    i9 := by kernel_rfl,
    i20 := by kernel_rfl,
    i37 := by kernel_rfl,
    i46 := by kernel_rfl,
    i51 := by kernel_rfl,
    i53 := by kernel_rfl,
    i171 := by kernel_rfl,
    i173 := by kernel_rfl,
    i212 := by kernel_rfl,
    i232 := by kernel_rfl,
    i233 := by kernel_rfl,
    m17 := by kernel_rfl,
    m18 := by kernel_rfl,
    m19 := by kernel_rfl }
end Go.Proofs.YtlolmemiedhhhaaDoor

/- strconv.FormatInt at base 10, out of the kit's shelf, as a contract. -/
namespace Go.Proofs.YtlolmemiedhhhaaDoor
set_option linter.unusedVariables false
open Go Go.RowKit SL Go.Shelf

theorem grow_belowW (w : World) (k : Nat) (os : Array Obj) : Below w.heap.size w (Sort.grow (w.drewN k) os) :=
  ⟨rfl, rfl, rfl, by show w.heap.size ≤ (w.heap ++ os).size; simp, fun j hj => by show (w.heap ++ os)[j]? = w.heap[j]?; rw [Array.getElem?_append_left hj]⟩

theorem itoa_len {n : Int} (h : isI64 n) : (Lib.itoa n).length ≤ 21 := Lib.itoa_length_le n h.1 h.2

theorem fmtInt_ok {f : FuncId} (hf : f = fmtInt_ren.f 173) (n : Int) (h : isI64 n) (σ : List Chunk) : FSpec Tryd.prog f [.val (.int .i64 n), .val (.int .i64 10)] σ (fun d σ' => d = .val (.str (Lib.itoa n)) ∧ σ' = σ) := fun G vs w hi hr => by
  subst hf
  obtain ⟨hsz, hv⟩ := hr
  have h0 := rep_int (hv 0 (by simp))
  have h1 := rep_int (hv 1 (by simp))
  have hvs : vs = #[.int .i64 n, .int .i64 10] := by
    apply Array.ext
    · exact hsz
    · intro i hi1 hi2
      have : i = 0 ∨ i = 1 := by simp at hi2; omega
      rcases this with rfl | rfl
      · simpa [Array.getD_eq_getD_getElem?, hi1] using h0
      · simpa [Array.getD_eq_getD_getElem?, hi1] using h1
  subst hvs
  have ht : Lib.TabIs Tryd.prog w "internal/strconv.uint64pow10" .u64 Lib.pow10Tab := Lib.tabBelow_of_tabIs G.ok w hi.below
  refine (Any.strconv_FormatInt_10 fmtInt_lays n h.1 h.2 w ht).mono fun e w' he => ?_
  obtain ⟨rfl, k, os, rfl⟩ := he
  exact ⟨G, _, σ, G.le_refl, hi.of_below (grow_belowW w k os), .val _ _ (.str ⟨(Lib.itoa n).toArray⟩), rfl, rfl⟩
end Go.Proofs.YtlolmemiedhhhaaDoor
