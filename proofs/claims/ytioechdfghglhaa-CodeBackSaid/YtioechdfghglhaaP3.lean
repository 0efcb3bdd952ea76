/- What single operations make of bytes and numbers: plain Lean. -/
import Derived.Test.YtioechdfghglhaaP2
namespace Go.Proofs.Ytioechdfghglhaa
set_option linter.unusedVariables false
set_option linter.unusedSimpArgs false
open Go Go.RowKit SL

theorem flat_len {α : Type} {f : α → List UInt8} {c : Nat} {ns : List α} (h : ∀ n ∈ ns, (f n).length ≤ c) (k : Nat) : ((ns.take k).flatMap f).length ≤ c * k := by
  induction k with
  | zero => simp
  | succ k ih =>
    by_cases hk : k < ns.length
    · rw [take_snoc hk, List.flatMap_append, List.length_append]
      have := h ns[k] (List.getElem_mem hk)
      simp only [List.flatMap_cons, List.flatMap_nil, List.append_nil, Nat.mul_succ]; omega
    · rw [List.take_of_length_le (by omega)] at ih ⊢
      rw [Nat.mul_succ]; omega

theorem flat_snoc {α : Type} {f : α → List UInt8} {ns : List α} {k : Nat} (h : k < ns.length) (l : List UInt8) : l ++ (ns.take (k + 1)).flatMap f = l ++ (ns.take k).flatMap f ++ f ns[k] := by
  rw [take_snoc h, List.flatMap_append, List.append_assoc]; simp

theorem zig_bits {x : Int} (h : isI64 x) :
    V.int .u64 (IntKind.u64.wrap ((BitVec.ofInt IntKind.u64.bits (IntKind.u64.wrap (IntKind.u64.wrap x * 2 ^ (min (1 : Int).toNat IntKind.u64.bits))) ^^^
      BitVec.ofInt IntKind.u64.bits (IntKind.u64.wrap (x.fdiv (2 ^ (min (63 : Int).toNat IntKind.i64.bits))))).toNat : Int)) = u64V (zig x) := by
  have e1 : min (1 : Int).toNat IntKind.u64.bits = 1 := by decide
  have e2 : min (63 : Int).toNat IntKind.i64.bits = 63 := by decide
  have hw : ∀ z : Int, IntKind.u64.wrap z = z % 18446744073709551616 := fun z => by
    unfold IntKind.wrap; simp only [IntKind.bits, IntKind.signed, Bool.false_and, Bool.false_eq_true, if_false]; omega
  have h2 : (2 : Int) ^ 63 = 9223372036854775808 := by decide
  unfold isI64 at h
  rw [e1, e2, hw, hw, hw, hw, Int.fdiv_eq_ediv_of_nonneg _ (by decide), h2]
  unfold u64V zig
  have hb : IntKind.u64.bits = 64 := rfl
  rw [hb]
  congr 1
  by_cases hx : x < 0
  · rw [if_pos hx]
    have : x / 9223372036854775808 % 18446744073709551616 = 18446744073709551615 := by omega
    rw [this]
    have ha : (BitVec.ofInt 64 18446744073709551615) = BitVec.allOnes 64 := by decide
    rw [ha, BitVec.xor_allOnes, BitVec.toNat_not, BitVec.toNat_ofInt]
    omega
  · rw [if_neg hx]
    have : x / 9223372036854775808 % 18446744073709551616 = 0 := by omega
    rw [this]
    have ha : (BitVec.ofInt 64 0) = 0#64 := by decide
    rw [ha, BitVec.xor_zero, BitVec.toNat_ofInt]
    omega

theorem wrapped_u64 (x : Nat) (h : x < 18446744073709551616) : IntKind.u64.wrap (x : Int) = (x : Int) := wrap_u64 (by omega) (by omega)

theorem and_mask : ∀ y : Fin 256, (BitVec.ofInt 8 (y.val : Int) &&& ~~~ BitVec.ofInt 8 128).toNat = y.val % 128 := by
  set_option maxRecDepth 8000 in decide

theorem and_top : ∀ y : Fin 256, (((BitVec.ofInt 8 (y.val : Int) &&& BitVec.ofInt 8 128).toNat : Int) == 0) = decide (y.val < 128) := by
  set_option maxRecDepth 8000 in decide

theorem mask_byte (x : UInt8) : D.val (.int .u8 (IntKind.u8.wrap ((BitVec.ofInt IntKind.u8.bits (x.toNat : Int) &&& ~~~ BitVec.ofInt IntKind.u8.bits 128).toNat : Int))) = .val (.int .u8 ((x.toNat % 128 : Nat) : Int)) := by
  have h := and_mask ⟨x.toNat, x.toNat_lt⟩
  simp only at h
  show D.val (.int .u8 (IntKind.u8.wrap ((BitVec.ofInt 8 (x.toNat : Int) &&& ~~~ BitVec.ofInt 8 128).toNat : Int))) = _
  rw [h, wrap_u8 (by omega) (by omega)]

theorem top_byte (x : UInt8) : D.val (.bool (IntKind.u8.wrap ((BitVec.ofInt IntKind.u8.bits (x.toNat : Int) &&& BitVec.ofInt IntKind.u8.bits 128).toNat : Int) == 0)) = .val (.bool (decide (x.toNat < 128))) := by
  have h := and_top ⟨x.toNat, x.toNat_lt⟩
  simp only at h
  show D.val (.bool (IntKind.u8.wrap ((BitVec.ofInt 8 (x.toNat : Int) &&& BitVec.ofInt 8 128).toNat : Int) == 0)) = _
  have hlt : (BitVec.ofInt 8 (x.toNat : Int) &&& BitVec.ofInt 8 128).toNat < 256 := BitVec.isLt _
  rw [wrap_u8 (by omega) (by omega), h]

theorem shl_part {x i : Nat} (h : i < 9 ∧ x < 128 ∨ i = 9 ∧ x ≤ 1) :
    D.val (.int .u64 (IntKind.u64.wrap ((x : Int) * 2 ^ (min (((7 * i : Nat) : Int)).toNat IntKind.u64.bits)))) = .val (.int .u64 ((128 ^ i * x : Nat) : Int)) := by
  have e : min (((7 * i : Nat) : Int)).toNat IntKind.u64.bits = 7 * i := by
    show min _ 64 = _
    omega
  rw [e]
  have h1 : (x : Int) * 2 ^ (7 * i) = ((128 ^ i * x : Nat) : Int) := by
    have e3 : (128 : Nat) ^ i = 2 ^ (7 * i) := by rw [Nat.pow_mul]
    rw [e3, Int.mul_comm, Int.natCast_mul, Int.natCast_pow]; rfl
  have h2 : 128 ^ i * x < 18446744073709551616 := by
    rcases h with ⟨h, h'⟩ | ⟨rfl, h'⟩
    · have : 128 ^ i ≤ 128 ^ 8 := Nat.pow_le_pow_right (by decide) (by omega)
      have : 128 ^ i * x ≤ 128 ^ 8 * 127 := Nat.mul_le_mul this (by omega)
      have : (128 : Nat) ^ 8 * 127 < 18446744073709551616 := by decide
      omega
    · have : 128 ^ 9 * x ≤ 128 ^ 9 * 1 := Nat.mul_le_mul (Nat.le_refl _) h'
      have : (128 : Nat) ^ 9 * 1 < 18446744073709551616 := by decide
      omega
  rw [h1, wrapped_u64 _ h2]

theorem or_part {n x i : Nat} (hn : n < 128 ^ i) (h : i < 9 ∧ x < 128 ∨ i = 9 ∧ x ≤ 1) :
    D.val (.int .u64 (IntKind.u64.wrap ((BitVec.ofInt IntKind.u64.bits (n : Int) ||| BitVec.ofInt IntKind.u64.bits ((128 ^ i * x : Nat) : Int)).toNat : Int))) = .val (.int .u64 ((n + 128 ^ i * x : Nat) : Int)) := by
  have h2 : n + 128 ^ i * x < 18446744073709551616 := by
    rcases h with ⟨h, h'⟩ | ⟨rfl, h'⟩
    · have : 128 ^ i ≤ 128 ^ 8 := Nat.pow_le_pow_right (by decide) (by omega)
      have : 128 ^ i * x ≤ 128 ^ 8 * 127 := Nat.mul_le_mul this (by omega)
      have : (128 : Nat) ^ 8 * 127 + 128 ^ 8 < 18446744073709551616 := by decide
      omega
    · have : 128 ^ 9 * x ≤ 128 ^ 9 * 1 := Nat.mul_le_mul (Nat.le_refl _) h'
      have : (128 : Nat) ^ 9 * 1 + 128 ^ 9 ≤ 18446744073709551616 := by decide
      omega
  have hor : n ||| 128 ^ i * x = n + 128 ^ i * x := by
    have e : (128 : Nat) ^ i = 2 ^ (7 * i) := by rw [Nat.pow_mul]
    rw [e] at hn ⊢
    rw [Nat.or_comm, ← Nat.two_pow_add_eq_or_of_lt hn, Nat.add_comm]
  show D.val (.int .u64 (IntKind.u64.wrap ((BitVec.ofInt 64 (n : Int) ||| BitVec.ofInt 64 ((128 ^ i * x : Nat) : Int)).toNat : Int))) = _
  rw [BitVec.toNat_or, BitVec.toNat_ofInt, BitVec.toNat_ofInt]
  have e1 : (((n : Int) % ((2 ^ 64 : Nat) : Int))).toNat = n := by omega
  have e2 : ((((128 ^ i * x : Nat) : Int) % ((2 ^ 64 : Nat) : Int))).toNat = 128 ^ i * x := by omega
  rw [e1, e2, hor, wrapped_u64 _ h2]

theorem decN_last {i : Nat} {x : UInt8} {m : List UInt8} (h : i < 9 ∨ i = 9 ∧ x.toNat ≤ 1) (hx : x.toNat < 128) (h0 : x.toNat ≠ 0 ∨ i = 0) : decN i (x :: m) = some (x.toNat, m) := by
  simp only [decN]
  rw [if_neg (by omega), if_pos hx, if_neg (by omega)]
theorem decN_more {i : Nat} {x : UInt8} {m : List UInt8} (h : i < 9 ∨ i = 9 ∧ x.toNat ≤ 1) (hx : ¬ x.toNat < 128) : decN i (x :: m) = (decN (i + 1) m).map fun p => (x.toNat - 128 + 128 * p.1, p.2) := by
  simp only [decN]
  rw [if_neg (by omega), if_neg hx]
  cases decN (i + 1) m with
  | none => rfl
  | some p => rfl
theorem decN_nil (i : Nat) : decN i [] = none := rfl
theorem decN_long {i : Nat} {m : List UInt8} (h : ¬ i < 10) : decN i m = none := by
  cases m with
  | nil => rfl
  | cons x m => simp only [decN]; rw [if_pos (by omega)]
theorem decN_great {i : Nat} {x : UInt8} {m : List UInt8} (h : ¬ i < 9) (hx : ¬ x.toNat ≤ 1) : decN i (x :: m) = none := by
  simp only [decN]; rw [if_pos (by omega)]
theorem decN_nought {i : Nat} {x : UInt8} {m : List UInt8} (hx : x.toNat = 0) (h0 : i ≠ 0) : decN i (x :: m) = none := by
  simp only [decN]
  split
  · rfl
  · rw [if_pos (by omega), if_pos (by omega)]

theorem step_dec {i n : Nat} {x : UInt8} {m l : List UInt8} (hd : decN 0 l = (decN i (x :: m)).map fun p => (n + 128 ^ i * p.1, p.2)) (h : i < 9 ∨ i = 9 ∧ x.toNat ≤ 1) (hx : ¬ x.toNat < 128) :
    decN 0 l = (decN (i + 1) m).map fun p => (n + 128 ^ i * (x.toNat % 128) + 128 ^ (i + 1) * p.1, p.2) := by
  rw [hd, decN_more h hx, Option.map_map]
  congr 1
  funext p
  have : x.toNat - 128 = x.toNat % 128 := by have := x.toNat_lt; omega
  simp only [Function.comp, Prod.mk.injEq, and_true]
  rw [this, Nat.mul_add, Nat.pow_succ, Nat.mul_assoc, Nat.add_assoc]

theorem step_lt {i n x : Nat} (h : n < 128 ^ i) (hx : x < 128) : n + 128 ^ i * x < 128 ^ (i + 1) := by
  have : 128 ^ i * x ≤ 128 ^ i * 127 := Nat.mul_le_mul (Nat.le_refl _) (by omega)
  rw [Nat.pow_succ]; omega

end Go.Proofs.Ytioechdfghglhaa
