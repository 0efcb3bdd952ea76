/- Numbers, texts and summaries as bytes: plain Lean, no program in sight. -/
import Derived.Test.YtioechdfghglhaaSlJ
namespace Go.Proofs.Ytioechdfghglhaa
set_option linter.unusedVariables false
set_option linter.unusedSimpArgs false
open Go Go.RowKit SL

def encNum (n : Nat) : List UInt8 := if h : n < 128 then [UInt8.ofNat n] else UInt8.ofNat (n % 128 + 128) :: encNum (n / 128)
termination_by n
decreasing_by omega

theorem encNum_lt {n : Nat} (h : n < 128) : encNum n = [UInt8.ofNat n] := by rw [encNum]; simp [h]
theorem encNum_ge {n : Nat} (h : 128 ≤ n) : encNum n = UInt8.ofNat (n % 128 + 128) :: encNum (n / 128) := by rw [encNum]; simp [show ¬ n < 128 by omega]

theorem encNum_len_pow : ∀ (k n : Nat), n < 128 ^ (k + 1) → (encNum n).length ≤ k + 1
  | 0, n, h => by rw [encNum_lt (by simpa using h)]; simp
  | k + 1, n, h => by
    by_cases h1 : n < 128
    · rw [encNum_lt h1]; simp
    · rw [encNum_ge (by omega)]
      have := encNum_len_pow k (n / 128) (by rw [Nat.div_lt_iff_lt_mul (by decide), ← Nat.pow_succ]; exact h)
      simp; exact this

theorem encNum_len {n : Nat} (h : n < 18446744073709551616) : (encNum n).length ≤ 10 := encNum_len_pow 9 n (Nat.lt_trans h (by decide))

theorem encNum_pos (n : Nat) : 0 < (encNum n).length := by
  by_cases h : n < 128
  · rw [encNum_lt h]; simp
  · rw [encNum_ge (by omega)]; simp

set_option maxRecDepth 4000 in
theorem or_128 : ∀ y : Fin 256, y.val ||| 128 = y.val % 128 + 128 := by decide

theorem wrap_u8_mod (n : Int) : IntKind.u8.wrap n = n % 256 := by
  rw [IntKind.wrap_u8]

theorem hi_byte (x : Nat) : V.int .u8 (IntKind.u8.wrap ((BitVec.ofInt 8 (IntKind.u8.wrap (x : Int)) ||| BitVec.ofInt 8 128).toNat : Int)) = byteV (UInt8.ofNat (x % 128 + 128)) := by
  have e : (BitVec.ofInt 8 (IntKind.u8.wrap (x : Int)) ||| BitVec.ofInt 8 128).toNat = x % 128 + 128 := by
    rw [BitVec.toNat_or, wrap_u8_mod]
    have h1 : (BitVec.ofInt 8 ((x : Int) % 256)).toNat = x % 256 := by
      rw [BitVec.toNat_ofInt]; omega
    have h2 : (BitVec.ofInt 8 128).toNat = 128 := by decide
    rw [h1, h2]
    have := or_128 ⟨x % 256, by omega⟩
    simp only at this
    rw [this]; omega
  unfold byteV
  rw [e, wrap_u8_mod]
  congr 1

theorem lo_byte (x : Nat) : V.int .u8 (IntKind.u8.wrap (x : Int)) = byteV (UInt8.ofNat x) := by
  unfold byteV
  rw [wrap_u8_mod]
  congr 1

theorem len_eq {a b : Nat} (h : a = b) : D.val (.int .i64 (a : Int)) = D.val (.int .i64 (b : Int)) := by rw [h]

theorem shr7 (x : Nat) : D.val (.int .u64 (Int.fdiv (x : Int) (2 ^ (min (7 : Int).toNat IntKind.u64.bits)))) = D.val (.int .u64 ((x / 128 : Nat) : Int)) := by
  have : min (7 : Int).toNat IntKind.u64.bits = 7 := by decide
  rw [this]
  have : Int.fdiv (x : Int) (2 ^ 7) = ((x / 128 : Nat) : Int) := by
    rw [Int.fdiv_eq_ediv_of_nonneg _ (by decide)]
    have : (2 : Int) ^ 7 = 128 := by decide
    rw [this]; omega
  rw [this]

def u64V (n : Nat) : V := .int .u64 n
def i64V (n : Int) : V := .int .i64 n
def strV (l : List UInt8) : V := .str l
def boolV (b : Bool) : V := .bool b

theorem take_snoc {α : Type} {l : List α} {k : Nat} (h : k < l.length) : l.take (k + 1) = l.take k ++ [l[k]] := by
  rw [List.take_succ_eq_append_getElem h]

theorem flat_take_len (ns : List Nat) (h : ∀ n ∈ ns, n < 18446744073709551616) (k : Nat) : ((ns.take k).flatMap encNum).length ≤ 10 * k := by
  induction k with
  | zero => simp
  | succ k ih =>
    by_cases hk : k < ns.length
    · rw [take_snoc hk, List.flatMap_append, List.length_append]
      have := encNum_len (h ns[k] (List.getElem_mem hk))
      simp only [List.flatMap_cons, List.flatMap_nil, List.append_nil]; omega
    · rw [List.take_of_length_le (by omega)] at ih ⊢
      omega

end Go.Proofs.Ytioechdfghglhaa
