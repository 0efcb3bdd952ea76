/- Intervals, alarms, names, summaries and parts as data and as bytes: plain Lean. -/
import Derived.Test.YtioechdfghglhaaP6
namespace Go.Proofs.Ytioechdfghglhaa
set_option linter.unusedVariables false
set_option linter.unusedSimpArgs false
open Go Go.RowKit SL

structure Ivl where
  some : Bool
  lo : Int
  hi : Int
structure Alm where
  pos : Int
  kind : Int
structure Nmd where
  name : List UInt8
  v : Ivl
structure Smy where
  alarms : List Alm
  ends : Bool
  ret : Ivl
  mod : List Nmd
structure Prt where
  what : UInt8
  n : Nat
  t : List UInt8
  s : Smy

def ivlV (v : Ivl) : V := .agg [.bool v.some, .int .i64 v.lo, .int .i64 v.hi]
def almV (a : Alm) : V := .agg [.int .i64 a.pos, .int .i64 a.kind]
def nmdV (m : Nmd) : V := .agg [.str m.name, .bool m.v.some, .int .i64 m.v.lo, .int .i64 m.v.hi]
def smyV (s : Smy) : V := .agg [.list (s.alarms.map almV), .bool s.ends, .bool s.ret.some, .int .i64 s.ret.lo, .int .i64 s.ret.hi, .list (s.mod.map nmdV)]
def prtV (p : Prt) : V := .agg [.int .u8 p.what.toNat, .int .u64 p.n, .str p.t, .list (p.s.alarms.map almV), .bool p.s.ends, .bool p.s.ret.some, .int .i64 p.s.ret.lo, .int .i64 p.s.ret.hi, .list (p.s.mod.map nmdV)]

def smyCells (s : Smy) : List V := [.list (s.alarms.map almV), .bool s.ends, .bool s.ret.some, .int .i64 s.ret.lo, .int .i64 s.ret.hi, .list (s.mod.map nmdV)]

theorem len_u64m {α : Type} (f : α → V) {r : List α} (h : r.length ≤ 100000000) : D.val (.int .u64 (IntKind.u64.wrap ((r.map f).length : Int))) = .val (u64V r.length) := by
  rw [List.length_map, wrapped_u64 _ (by omega)]; rfl

def IvlOk (v : Ivl) : Prop := isI64 v.lo ∧ isI64 v.hi
def AlmOk (a : Alm) : Prop := isI64 a.pos ∧ isI64 a.kind
def SmyOk (s : Smy) : Prop := (∀ a ∈ s.alarms, AlmOk a) ∧ IvlOk s.ret ∧ ∀ m ∈ s.mod, IvlOk m.v
def PrtOk (p : Prt) : Prop := p.n < 18446744073709551616 ∧ SmyOk p.s

/-- Small enough that the laws look at it. -/
def SmyLight (s : Smy) : Prop := s.alarms.length ≤ 10 ∧ s.mod.length ≤ 10 ∧ ∀ m ∈ s.mod, m.name.length ≤ 50
def PrtLight (p : Prt) : Prop := p.t.length ≤ 100 ∧ SmyLight p.s

def encIval (v : Ivl) : List UInt8 := encBool v.some ++ if v.some then encInt v.lo ++ encInt v.hi else []
def encAlarm (a : Alm) : List UInt8 := encInt a.pos ++ encInt a.kind
def encNamed (m : Nmd) : List UInt8 := encText m.name ++ encIval m.v
def encAlarms (l : List Alm) : List UInt8 := encNum l.length ++ l.flatMap encAlarm
def encSumm (s : Smy) : List UInt8 := encAlarms s.alarms ++ encBool s.ends ++ encIval s.ret ++ encNum s.mod.length ++ s.mod.flatMap encNamed
def encPart (p : Prt) : List UInt8 :=
  if p.what.toNat % 5 = 0 then encNum p.n else if p.what.toNat % 5 = 1 then encInt (IntKind.i64.wrap p.n) else if p.what.toNat % 5 = 2 then encText p.t
  else if p.what.toNat % 5 = 3 then encBool (p.n % 2 == 1) else encSumm p.s

theorem encInt_len {n : Int} (h : isI64 n) : (encInt n).length ≤ 10 := encNum_len (zig_lt h)

theorem encBool_len1 (b : Bool) : (encBool b).length = 1 := by
  rw [encBool_eq]; rfl

theorem encIval_len {v : Ivl} (h : IvlOk v) : (encIval v).length ≤ 21 := by
  have h1 := encInt_len h.1
  have h2 := encInt_len h.2
  unfold encIval
  rw [List.length_append, encBool_len1]
  split
  · rw [List.length_append]; omega
  · simp

theorem encAlarm_len {a : Alm} (h : AlmOk a) : (encAlarm a).length ≤ 20 := by
  have h1 := encInt_len h.1
  have h2 := encInt_len h.2
  unfold encAlarm
  rw [List.length_append]; omega

theorem encText_lenc {s : List UInt8} {c : Nat} (h : s.length ≤ c) (hc : c ≤ 100000000) : (encText s).length ≤ 10 + c := by
  have := encNum_len (n := s.length) (by omega)
  unfold encText; rw [List.length_append]; omega

theorem encNamed_len {m : Nmd} (h : IvlOk m.v) (hl : m.name.length ≤ 50) : (encNamed m).length ≤ 81 := by
  have h1 := encIval_len h
  have h2 := encText_lenc hl (by decide)
  unfold encNamed
  rw [List.length_append]; omega

theorem flat_allc {α : Type} {f : α → List UInt8} {c : Nat} {ns : List α} (h : ∀ n ∈ ns, (f n).length ≤ c) : (ns.flatMap f).length ≤ c * ns.length := by
  have := flat_len h ns.length
  rwa [List.take_length] at this

theorem encSumm_len {s : Smy} (h : SmyOk s) (hl : SmyLight s) : (encSumm s).length ≤ 1100 := by
  have h1 := flat_allc (f := encAlarm) (c := 20) (ns := s.alarms) fun a ha => encAlarm_len (h.1 a ha)
  have h2 := flat_allc (f := encNamed) (c := 81) (ns := s.mod) fun m hm => encNamed_len (h.2.2 m hm) (hl.2.2 m hm)
  have h3 := encIval_len h.2.1
  have h4 := encNum_len (n := s.alarms.length) (by have := hl.1; omega)
  have h5 := encNum_len (n := s.mod.length) (by have := hl.2.1; omega)
  have h6 := hl.1
  have h7 := hl.2.1
  unfold encSumm encAlarms
  simp only [List.length_append, encBool_len1]; omega

theorem wrap_i64_ok (n : Int) : isI64 (IntKind.i64.wrap n) := by
  unfold isI64 IntKind.wrap
  have e1 : (2 : Int) ^ IntKind.i64.bits = 18446744073709551616 := by decide
  have e2 : (2 : Int) ^ (IntKind.i64.bits - 1) = 9223372036854775808 := by decide
  rw [e1, e2]
  by_cases h : n % 18446744073709551616 ≥ 9223372036854775808
  · have : (IntKind.i64.signed && decide (n % 18446744073709551616 ≥ 9223372036854775808)) = true := by simp [IntKind.signed]; omega
    simp only [this, if_true]; omega
  · have : (IntKind.i64.signed && decide (n % 18446744073709551616 ≥ 9223372036854775808)) = false := by simp [IntKind.signed]; omega
    simp only [this, Bool.false_eq_true, if_false]; omega

theorem encPart_len {p : Prt} (h : PrtOk p) (hl : PrtLight p) : (encPart p).length ≤ 1100 := by
  unfold encPart
  have h1 := encNum_len h.1
  have h2 := encInt_len (wrap_i64_ok p.n)
  have h3 := encText_lenc hl.1 (by decide)
  have h4 := encSumm_len h.2 hl.2
  have h5 := encBool_len1 (p.n % 2 == 1)
  split
  · omega
  · split
    · omega
    · split
      · omega
      · split <;> omega

theorem rem5 (w : UInt8) : D.val (.int .u8 ((w.toNat : Int).tmod 5)) = .val (.int .u8 ((w.toNat % 5 : Nat) : Int)) := by
  rw [Int.tmod_eq_emod_of_nonneg (by omega)]; rfl

theorem odd_bool (n : Nat) : D.val (.bool ((n : Int).tmod 2 == 1)) = .val (boolV (n % 2 == 1)) := by
  rw [Int.tmod_eq_emod_of_nonneg (by omega)]
  unfold boolV
  have e : ((n : Int) % 2 == 1) = (n % 2 == 1) := by
    by_cases h : n % 2 = 1
    · have h1 : (n : Int) % 2 = 1 := by omega
      rw [h, h1]; rfl
    · have h1 : ¬ (n : Int) % 2 = 1 := by omega
      rw [beq_eq_false_iff_ne.mpr h, beq_eq_false_iff_ne.mpr h1]
  rw [e]

theorem eq5 {a b : Nat} (h : (((a : Nat) : Int) == ((b : Nat) : Int)) = true) : a = b := by
  have := eq_of_beq h; omega
theorem ne5 {a b : Nat} (h : (((a : Nat) : Int) == ((b : Nat) : Int)) = false) : a ≠ b := by
  have := beq_eq_false_iff_ne.mp h; omega

theorem encPart0 {p : Prt} (h : p.what.toNat % 5 = 0) : encPart p = encNum p.n := by unfold encPart; rw [if_pos h]
theorem encPart1 {p : Prt} (h : p.what.toNat % 5 = 1) : encPart p = encInt (IntKind.i64.wrap p.n) := by unfold encPart; rw [if_neg (by omega), if_pos h]
theorem encPart2 {p : Prt} (h : p.what.toNat % 5 = 2) : encPart p = encText p.t := by unfold encPart; rw [if_neg (by omega), if_neg (by omega), if_pos h]
theorem encPart3 {p : Prt} (h : p.what.toNat % 5 = 3) : encPart p = encBool (p.n % 2 == 1) := by unfold encPart; rw [if_neg (by omega), if_neg (by omega), if_neg (by omega), if_pos h]
theorem encPart4 {p : Prt} (h0 : p.what.toNat % 5 ≠ 0) (h1 : p.what.toNat % 5 ≠ 1) (h2 : p.what.toNat % 5 ≠ 2) (h3 : p.what.toNat % 5 ≠ 3) : encPart p = encSumm p.s := by
  unfold encPart; rw [if_neg h0, if_neg h1, if_neg h2, if_neg h3]

def prtCells (p : Prt) : List V := [.int .u8 p.what.toNat, .int .u64 p.n, .str p.t, .list (p.s.alarms.map almV), .bool p.s.ends, .bool p.s.ret.some, .int .i64 p.s.ret.lo, .int .i64 p.s.ret.hi, .list (p.s.mod.map nmdV)]

end Go.Proofs.Ytioechdfghglhaa
