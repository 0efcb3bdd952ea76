/- The program logic, third part: a region's operations, one rule for each kind. -/
import Derived.Test.YtioechdfghglhaaSlB
import Derived.Laws.Cells
import Derived.Laws.Append
import Derived.Laws.Concat
import Derived.Laws.Small
import Derived.Laws.StructEq
namespace Go.Proofs.Ytioechdfghglhaa.SL
set_option linter.unusedVariables false
set_option linter.unusedSimpArgs false
open Go Go.RowKit

/-- A list of operations that are still to do, begun in this state, ends as Q says. -/
def SL (P : Program) (ops : Array Oper) (l : List Oper) (Q : Post) (s : Slots) (δ : Defs) (σ : List Chunk) : Prop :=
  ∀ G a w, Inv G σ w → RelA G s δ a → wpList P ops (Lift G Q) l a w

theorem LetsOut.mono {Q Q' : Exit → Act → World → Prop} (h : ∀ e a w, Q e a w → Q' e a w) (l : LetsOut Q) : LetsOut Q' := by
  obtain ⟨a, w, q⟩ := l; exact ⟨a, w, h _ _ _ q⟩

theorem Oper.wp_mono2 {P : Program} {o : Oper} {a : Act} {w : World} {K K' : Act → World → Prop} {Q Q' : Exit → Act → World → Prop} (h : ∀ a w, K a w → K' a w)
    (hq : ∀ e a w, Q e a w → Q' e a w) (hh : o.wp P a w K Q) : o.wp P a w K' Q' := by
  unfold Oper.wp at *
  generalize (execOp a.eval o).run P w = r at *
  cases r with
  | ok n w' =>
    cases n <;> simp only [Oper.upon] at hh ⊢ <;>
      first
        | exact h _ _ hh
        | exact Calls.mono hh (fun e w'' he => by cases e <;> first | exact h _ _ he | exact hq _ _ _ he | exact LetsOut.mono hq he)
        | exact Rows.mono hh (fun _ _ he => h _ _ he)
  | halt x w' => cases x <;> simp only [Oper.upon] at hh ⊢ <;> exact hq _ _ _ hh

theorem wpList_mono {P : Program} {ops : Array Oper} {Q Q' : Exit → Act → World → Prop} (hq : ∀ e a w, Q e a w → Q' e a w) :
    ∀ (l : List Oper) (a : Act) (w : World), wpList P ops Q l a w → wpList P ops Q' l a w
  | [], a, w, h => hq _ _ _ h
  | o :: rest, a, w, h => by
    unfold wpList at h ⊢
    split at h <;> rename_i hw
    · rw [if_pos hw]
      rcases h with h | ⟨h1, h2⟩
      · exact .inl (Oper.wp_mono2 (wpList_mono hq rest) hq h)
      · exact .inr ⟨h1, LetsOut.mono hq h2⟩
    · rw [if_neg hw]; exact wpList_mono hq rest _ _ h

section rules
variable {P : Program} {ops : Array Oper} {Q : Post} {s : Slots} {δ : Defs} {σ : List Chunk} {o : Oper} {rest : List Oper}

theorem sl_region {id : Nat} {l : List Oper} (h : SL P l.toArray l Q s δ σ) : SW P (.region id l.toArray false) Q s δ σ := fun G a w hi hr =>
  wp_region_lit (h G a w hi hr)

theorem sl_nil (h : Q .normal s δ σ) : SL P ops [] Q s δ σ := fun G a w hi hr => wpList_nil ⟨G, s, δ, σ, G.le_refl, hi, hr, h⟩

theorem sl_weak {s' : Slots} (hw : SWk s s') (h : SL P ops rest Q s' δ σ) : SL P ops rest Q s δ σ := fun G a w hi hr => h G a w hi (hr.weak hw)
theorem sl_perm {σ' : List Chunk} (hp : σ.Perm σ') (h : SL P ops rest Q s δ σ') : SL P ops rest Q s δ σ := fun G a w hi hr => h G a w (hi.perm hp) hr
theorem sl_sub {σ' : List Chunk} (hp : σ'.Sublist σ) (h : SL P ops rest Q s δ σ') : SL P ops rest Q s δ σ := fun G a w hi hr => h G a w (hi.sub hp) hr

theorem SL.use {G G' : Gh} (hle : G.le G') (h : SL P ops rest Q s δ σ) {a : Act} {w : World} (hi : Inv G' σ w) (hr : RelA G' s δ a) : wpList P ops (Lift G Q) rest a w :=
  wpList_mono (fun _ _ _ l => l.mono hle) _ _ _ (h G' a w hi hr)

/-- An operation that leaves a value. -/
theorem sl_op (hg : o.guard = none) (H : ∀ G a w, Inv G σ w → RelA G s δ a → ∃ v w' G' d σ', (execOp a.eval o).run P w = .ok (.value v) w' ∧ G.le G' ∧ Inv G' σ' w' ∧
      RepD G'.C v d ∧ SL P ops rest Q (sput s o.dst d) δ σ') : SL P ops (o :: rest) Q s δ σ := fun G a w hi hr => by
  obtain ⟨v, w', G', d, σ', h1, h2, h3, h4, h5⟩ := H G a w hi hr
  refine wpList_plain hg fun K hK => ?_
  unfold Oper.wp
  rw [h1, Oper.upon_value]
  exact hK _ _ (h5.use h2 h3 ((hr.mono h2).put o.dst h4))

/-- An operation that leaves nothing. -/
theorem sl_skip (hg : o.guard = none) (H : ∀ G a w, Inv G σ w → RelA G s δ a → ∃ w' G' σ', (execOp a.eval o).run P w = .ok .skip w' ∧ G.le G' ∧ Inv G' σ' w' ∧
      SL P ops rest Q (sput s o.dst .junk) δ σ') : SL P ops (o :: rest) Q s δ σ := fun G a w hi hr => by
  obtain ⟨w', G', σ', h1, h2, h3, h5⟩ := H G a w hi hr
  refine wpList_plain hg fun K hK => ?_
  unfold Oper.wp
  rw [h1, Oper.upon_skip]
  exact hK _ _ (h5.use h2 h3 ((hr.mono h2).put o.dst (.junk _)))

/-- A pure operation: the value is told by the state alone. -/
theorem sl_pure (hg : o.guard = none) {d : D} (H : ∀ G a w, Inv G σ w → RelA G s δ a → ∃ v, (execOp a.eval o).run P w = .ok (.value v) w ∧ RepD G.C v d)
    (k : SL P ops rest Q (sput s o.dst d) δ σ) : SL P ops (o :: rest) Q s δ σ :=
  sl_op hg fun G a w hi hr => by
    obtain ⟨v, h1, h2⟩ := H G a w hi hr
    exact ⟨v, w, G, d, σ, h1, G.le_refl, hi, h2, k⟩

theorem rep_undef (C : Imm) : RepD C undef (.tup []) := .tup #[] [] rfl (fun k hk => absurd hk (by simp))

/-- An operation under a guard. -/
theorem sl_guard {j : Nat} {want b : Bool} {t : Tmp} (hg : o.guard = some (j, want)) (hj : (ops[j]?).bind (·.dst) = some t) (hb : evalO s (.tmp t) = .val (.bool b))
    (hy : b = want → SL P ops ({ o with guard := none } :: rest) Q s δ σ) (hn : b ≠ want → SL P ops rest Q (sput s o.dst (.tup [])) δ σ) : SL P ops (o :: rest) Q s δ σ := fun G a w hi hr => by
  have he := evalO_bool hr hb
  have hyd : yielded ops a.tmps j = some b := by
    unfold yielded
    simp only [hj, Option.bind_some]
    simp only [Act.eval] at he
    have : t < a.tmps.size := by
      rcases Nat.lt_or_ge t a.tmps.size with h | h
      · exact h
      · simp [h, undef] at he
    rw [Array.getElem?_eq_getElem this]
    simp only [Array.getD_eq_getD_getElem?, Array.getElem?_eq_getElem this, Option.getD_some] at he
    rw [he]
  by_cases hw : b = want
  · have h1 := hy hw G a w hi hr
    unfold wpList at h1 ⊢
    rw [if_pos (by simp [Region.wanted])] at h1
    rw [if_pos (by simp [Region.wanted, hg, hyd, hw])]
    exact h1
  · have h1 := hn hw G _ w hi (hr.put o.dst (rep_undef G.C))
    unfold wpList
    rw [if_neg (by simp [Region.wanted, hg, hyd, hw])]
    exact h1

/-! ### Copies, choices -/

theorem sl_move {x : Operand} (hg : o.guard = none) (ho : o.op = .move x) (k : SL P ops rest Q (sput s o.dst (evalO s x)) δ σ) : SL P ops (o :: rest) Q s δ σ :=
  sl_pure hg (fun G a w hi hr => ⟨a.eval x, by simp only [execOp, ho]; rfl, hr.eval x⟩) k

theorem sl_assign {x : Operand} (hg : o.guard = none) (ho : o.op = .assign x) (k : SL P ops rest Q (sput s o.dst (evalO s x)) δ σ) : SL P ops (o :: rest) Q s δ σ :=
  sl_pure hg (fun G a w hi hr => ⟨a.eval x, by simp only [execOp, ho]; rfl, hr.eval x⟩) k

theorem sl_pick {c x y : Operand} {b : Bool} (hg : o.guard = none) (ho : o.op = .pick c x y) (hb : evalO s c = .val (.bool b))
    (k : SL P ops rest Q (sput s o.dst (if b then evalO s x else evalO s y)) δ σ) : SL P ops (o :: rest) Q s δ σ :=
  sl_pure hg (fun G a w hi hr => ⟨if b then a.eval x else a.eval y, by
    have := evalO_bool hr hb
    simp [execOp, ho, this, asBool], by
    cases b
    · exact hr.eval y
    · exact hr.eval x⟩) k

theorem rep_int {C : Imm} {v : Value} {k : IntKind} {n : Int} (r : RepD C v (.val (.int k n))) : v = .int k n := by
  cases r with
  | val _ _ h => cases h; rfl

theorem rep_bool {C : Imm} {v : Value} {b : Bool} (r : RepD C v (.val (.bool b))) : v = .bool b := by
  cases r with
  | val _ _ h => cases h; rfl

theorem rep_str {C : Imm} {v : Value} {l : List UInt8} (r : RepD C v (.val (.str l))) : ∃ t : ByteArray, v = .string t ∧ t.data.toList = l := by
  cases r with
  | val _ _ h => cases h with | str t => exact ⟨t, rfl, rfl⟩

theorem rep_ptr {C : Imm} {v : Value} {b o : Nat} (r : RepD C v (.ptr b o)) : v = .pointer (some ⟨b, o, none⟩) := by
  cases r; rfl

theorem rep_sl {C : Imm} {v : Value} {b o n c : Nat} (r : RepD C v (.sl b o n c)) : v = .slice (some ⟨b, o, none⟩) n c := by
  cases r; rfl

/-! ### Numbers -/

/-- What an operator makes of two numbers (no division, no shift). -/
def binI (op : BinOp) (k : IntKind) (x y : Int) : Option V :=
  match op with
  | .add => some (.int k (k.wrap (x + y)))
  | .sub => some (.int k (k.wrap (x - y)))
  | .mul => some (.int k (k.wrap (x * y)))
  | .and => some (.int k (k.wrap (BitVec.ofInt k.bits x &&& BitVec.ofInt k.bits y).toNat))
  | .or => some (.int k (k.wrap (BitVec.ofInt k.bits x ||| BitVec.ofInt k.bits y).toNat))
  | .xor => some (.int k (k.wrap (BitVec.ofInt k.bits x ^^^ BitVec.ofInt k.bits y).toNat))
  | .andNot => some (.int k (k.wrap (BitVec.ofInt k.bits x &&& ~~~ BitVec.ofInt k.bits y).toNat))
  | .eql => some (.bool (x == y))
  | .neq => some (.bool (x != y))
  | .lss => some (.bool (decide (x < y)))
  | .leq => some (.bool (decide (x ≤ y)))
  | .gtr => some (.bool (decide (x > y)))
  | .geq => some (.bool (decide (x ≥ y)))
  | _ => none

theorem run_guard_int (P : Program) (w : World) (op : BinOp) (t : TypeId) (x y : Operand) (k k' : IntKind) (m n : Int) : (eqGuard op t x y (.int k m) (.int k' n)).run P w = .ok () w := by
  unfold eqGuard
  cases op <;> rfl

theorem rep_bin {C : Imm} {z : V} {v : Value} (h : RepV C v z) : RepD C v (.val z) := .val _ _ h

theorem sl_bin {op : BinOp} {t t' : TypeId} {x y : Operand} {k : IntKind} {m n : Int} {z : V} (hg : o.guard = none) (ho : o.op = .binOp op t x y t')
    (hx : evalO s x = .val (.int k m)) (hy : evalO s y = .val (.int k n)) (hz : binI op k m n = some z)
    (c : SL P ops rest Q (sput s o.dst (.val z)) δ σ) : SL P ops (o :: rest) Q s δ σ :=
  sl_pure hg (fun G a w hi hr => by
    have h1 := hr.eval x; rw [hx] at h1; have h1 := rep_int h1
    have h2 := hr.eval y; rw [hy] at h2; have h2 := rep_int h2
    cases op <;> simp only [binI, Option.some.injEq, reduceCtorEq] at hz <;> subst hz <;>
      refine ⟨_, ?_, rep_bin (by first | exact .int _ _ | exact .bool _)⟩ <;>
      simp [execOp, ho, h1, h2, run_guard_int, binOp, Op.intArith, Op.intBits, Op.intCmp]) c

theorem sl_div {t t' : TypeId} {x y : Operand} {k : IntKind} {m n : Int} (hg : o.guard = none) (ho : o.op = .binOp .quo t x y t')
    (hx : evalO s x = .val (.int k m)) (hy : evalO s y = .val (.int k n)) (hn : n ≠ 0)
    (c : SL P ops rest Q (sput s o.dst (.val (.int k (k.wrap (m.tdiv n))))) δ σ) : SL P ops (o :: rest) Q s δ σ :=
  sl_pure hg (fun G a w hi hr => by
    have h1 := hr.eval x; rw [hx] at h1; have h1 := rep_int h1
    have h2 := hr.eval y; rw [hy] at h2; have h2 := rep_int h2
    refine ⟨_, ?_, rep_bin (.int _ _)⟩
    simp [execOp, ho, h1, h2, run_guard_int, binOp, Op.intDiv, hn]) c

theorem sl_rem {t t' : TypeId} {x y : Operand} {k : IntKind} {m n : Int} (hg : o.guard = none) (ho : o.op = .binOp .rem t x y t')
    (hx : evalO s x = .val (.int k m)) (hy : evalO s y = .val (.int k n)) (hn : n ≠ 0)
    (c : SL P ops rest Q (sput s o.dst (.val (.int k (m.tmod n)))) δ σ) : SL P ops (o :: rest) Q s δ σ :=
  sl_pure hg (fun G a w hi hr => by
    have h1 := hr.eval x; rw [hx] at h1; have h1 := rep_int h1
    have h2 := hr.eval y; rw [hy] at h2; have h2 := rep_int h2
    refine ⟨_, ?_, rep_bin (.int _ _)⟩
    simp [execOp, ho, h1, h2, run_guard_int, binOp, Op.intDiv, hn]) c

theorem sl_shl {t t' : TypeId} {x y : Operand} {k k' : IntKind} {m n : Int} (hg : o.guard = none) (ho : o.op = .binOp .shl t x y t')
    (hx : evalO s x = .val (.int k m)) (hy : evalO s y = .val (.int k' n)) (hn : 0 ≤ n)
    (c : SL P ops rest Q (sput s o.dst (.val (.int k (k.wrap (m * 2 ^ (min n.toNat k.bits)))))) δ σ) : SL P ops (o :: rest) Q s δ σ :=
  sl_pure hg (fun G a w hi hr => by
    have h1 := hr.eval x; rw [hx] at h1; have h1 := rep_int h1
    have h2 := hr.eval y; rw [hy] at h2; have h2 := rep_int h2
    refine ⟨_, ?_, rep_bin (.int _ _)⟩
    simp [execOp, ho, h1, h2, run_guard_int, binOp, Op.shift, show ¬ n < 0 by omega]) c

theorem sl_shr {t t' : TypeId} {x y : Operand} {k k' : IntKind} {m n : Int} (hg : o.guard = none) (ho : o.op = .binOp .shr t x y t')
    (hx : evalO s x = .val (.int k m)) (hy : evalO s y = .val (.int k' n)) (hn : 0 ≤ n)
    (c : SL P ops rest Q (sput s o.dst (.val (.int k (m.fdiv (2 ^ (min n.toNat k.bits)))))) δ σ) : SL P ops (o :: rest) Q s δ σ :=
  sl_pure hg (fun G a w hi hr => by
    have h1 := hr.eval x; rw [hx] at h1; have h1 := rep_int h1
    have h2 := hr.eval y; rw [hy] at h2; have h2 := rep_int h2
    refine ⟨_, ?_, rep_bin (.int _ _)⟩
    simp [execOp, ho, h1, h2, run_guard_int, binOp, Op.shift, show ¬ n < 0 by omega]) c

theorem sl_neg {t : TypeId} {x : Operand} {k : IntKind} {m : Int} (hg : o.guard = none) (ho : o.op = .unOp .neg t x) (hx : evalO s x = .val (.int k m))
    (c : SL P ops rest Q (sput s o.dst (.val (.int k (k.wrap (0 - m))))) δ σ) : SL P ops (o :: rest) Q s δ σ :=
  sl_pure hg (fun G a w hi hr => by
    have h1 := hr.eval x; rw [hx] at h1; have h1 := rep_int h1
    refine ⟨_, ?_, rep_bin (.int _ _)⟩
    simp [execOp, ho, h1, Op.unary, Op.intArith]) c

theorem sl_not {t : TypeId} {x : Operand} {b : Bool} (hg : o.guard = none) (ho : o.op = .unOp .not t x) (hx : evalO s x = .val (.bool b))
    (c : SL P ops rest Q (sput s o.dst (.val (.bool (!b)))) δ σ) : SL P ops (o :: rest) Q s δ σ :=
  sl_pure hg (fun G a w hi hr => by
    have h1 := hr.eval x; rw [hx] at h1; have h1 := rep_bool h1
    refine ⟨_, ?_, rep_bin (.bool _)⟩
    simp [execOp, ho, h1, Op.unary]) c

theorem sl_conv_int {t t' : TypeId} {x : Operand} {k k' : IntKind} {m : Int} (hg : o.guard = none) (ho : o.op = .convert t t' x) (hx : evalO s x = .val (.int k m))
    (ht : (P.underlying t).isSome = true) (ht' : P.underlying t' = some (.int k'))
    (c : SL P ops rest Q (sput s o.dst (.val (.int k' (k'.wrap m)))) δ σ) : SL P ops (o :: rest) Q s δ σ :=
  sl_pure hg (fun G a w hi hr => by
    have h1 := hr.eval x; rw [hx] at h1; have h1 := rep_int h1
    obtain ⟨d, hd⟩ := Option.isSome_iff_exists.mp ht
    refine ⟨_, ?_, rep_bin (.int _ _)⟩
    simp only [execOp, ho, h1, convert, underlying, Sem.run_bind, run_program, Result.andThen_ok, hd, ht', Sem.run_pure]
    cases d <;> simp [Conv.intToInt]) c

/-! ### Truths, texts, nothing -/

theorem run_guard_bool (P : Program) (w : World) (op : BinOp) (t : TypeId) (x y : Operand) (m n : Bool) : (eqGuard op t x y (.bool m) (.bool n)).run P w = .ok () w := by
  unfold eqGuard
  cases op <;> rfl

theorem run_guard_str (P : Program) (w : World) (op : BinOp) (t : TypeId) (x y : Operand) (m n : ByteArray) : (eqGuard op t x y (.string m) (.string n)).run P w = .ok () w := by
  unfold eqGuard
  cases op <;> rfl

theorem run_eql_bool (P : Program) (w : World) (t : TypeId) (m n : Bool) (ht : P.underlying t = some .bool) : (binOp .eql t (.bool m) (.bool n)).run P w = .ok (.bool (m == n)) w := by
  simp only [binOp, Sem.run_bind, run_equal_bool w t m n ht, Result.andThen_ok, Sem.run_pure]

theorem run_neq_bool (P : Program) (w : World) (t : TypeId) (m n : Bool) (ht : P.underlying t = some .bool) : (binOp .neq t (.bool m) (.bool n)).run P w = .ok (.bool (!(m == n))) w := by
  simp only [binOp, Sem.run_bind, run_equal_bool w t m n ht, Result.andThen_ok, Sem.run_pure]

theorem run_execBin {ρ : Operand → Value} {op : BinOp} {t t' : TypeId} {x y : Operand} (ho : o.op = .binOp op t x y t') {w : World} {v : Value}
    (h1 : (eqGuard op t x y (ρ x) (ρ y)).run P w = .ok () w) (h2 : (binOp op t (ρ x) (ρ y)).run P w = .ok v w) : (execOp ρ o).run P w = .ok (.value v) w := by
  simp only [execOp, ho, Sem.run_bind, h1, h2, Result.andThen_ok, Sem.run_pure]

theorem sl_bool_eq {t t' : TypeId} {x y : Operand} {m n : Bool} (hg : o.guard = none) (ho : o.op = .binOp .eql t x y t')
    (hx : evalO s x = .val (.bool m)) (hy : evalO s y = .val (.bool n)) (ht : P.underlying t = some .bool)
    (c : SL P ops rest Q (sput s o.dst (.val (.bool (m == n)))) δ σ) : SL P ops (o :: rest) Q s δ σ :=
  sl_pure hg (fun G a w hi hr => by
    have h1 := hr.eval x; rw [hx] at h1; have h1 := rep_bool h1
    have h2 := hr.eval y; rw [hy] at h2; have h2 := rep_bool h2
    exact ⟨_, run_execBin ho (by rw [h1, h2]; exact run_guard_bool ..) (by rw [h1, h2]; exact run_eql_bool P w t m n ht), rep_bin (.bool _)⟩) c

theorem sl_bool_ne {t t' : TypeId} {x y : Operand} {m n : Bool} (hg : o.guard = none) (ho : o.op = .binOp .neq t x y t')
    (hx : evalO s x = .val (.bool m)) (hy : evalO s y = .val (.bool n)) (ht : P.underlying t = some .bool)
    (c : SL P ops rest Q (sput s o.dst (.val (.bool (!(m == n))))) δ σ) : SL P ops (o :: rest) Q s δ σ :=
  sl_pure hg (fun G a w hi hr => by
    have h1 := hr.eval x; rw [hx] at h1; have h1 := rep_bool h1
    have h2 := hr.eval y; rw [hy] at h2; have h2 := rep_bool h2
    exact ⟨_, run_execBin ho (by rw [h1, h2]; exact run_guard_bool ..) (by rw [h1, h2]; exact run_neq_bool P w t m n ht), rep_bin (.bool _)⟩) c

theorem toList_data (t : ByteArray) : t.toList = t.data.toList := Go.ByteArray.toList_eq t

/-- What an operator makes of two texts. -/
def binS (op : BinOp) (x y : List UInt8) : Option V :=
  match op with
  | .eql => some (.bool (x == y))
  | .neq => some (.bool (!(x == y)))
  | .lss => some (.bool (Op.bytesLess x y))
  | .leq => some (.bool (Op.bytesLess x y || x == y))
  | .gtr => some (.bool (!(Op.bytesLess x y || x == y)))
  | .geq => some (.bool (!(Op.bytesLess x y)))
  | _ => none

theorem sl_str {op : BinOp} {t t' : TypeId} {x y : Operand} {m n : List UInt8} {z : V} (hg : o.guard = none) (ho : o.op = .binOp op t x y t')
    (hx : evalO s x = .val (.str m)) (hy : evalO s y = .val (.str n)) (hz : binS op m n = some z)
    (c : SL P ops rest Q (sput s o.dst (.val z)) δ σ) : SL P ops (o :: rest) Q s δ σ :=
  sl_pure hg (fun G a w hi hr => by
    have h1 := hr.eval x; rw [hx] at h1; obtain ⟨t1, e1, rfl⟩ := rep_str h1
    have h2 := hr.eval y; rw [hy] at h2; obtain ⟨t2, e2, rfl⟩ := rep_str h2
    cases op <;> simp only [binS, Option.some.injEq, reduceCtorEq] at hz <;> subst hz <;>
      exact ⟨_, run_execBin ho (by rw [e1, e2]; exact run_guard_str ..) (by rw [e1, e2]; simp only [binOp, Op.stringOp, Sem.run_pure, toList_data]), rep_bin (.bool _)⟩) c

theorem sl_str_add {t t' : TypeId} {x y : Operand} {m n : List UInt8} (hg : o.guard = none) (ho : o.op = .binOp .add t x y t')
    (hx : evalO s x = .val (.str m)) (hy : evalO s y = .val (.str n)) (hle : m.length + n.length ≤ 9223372036854775807)
    (c : SL P ops rest Q (sput s o.dst (.val (.str (m ++ n)))) δ σ) : SL P ops (o :: rest) Q s δ σ :=
  sl_pure hg (fun G a w hi hr => by
    have h1 := hr.eval x; rw [hx] at h1; obtain ⟨t1, e1, rfl⟩ := rep_str h1
    have h2 := hr.eval y; rw [hy] at h2; obtain ⟨t2, e2, rfl⟩ := rep_str h2
    refine ⟨_, run_execBin ho (by rw [e1, e2]; exact run_guard_str ..) (by rw [e1, e2]; simp only [binOp]; exact run_string_add_sum w t1 t2 (by simp only [Array.length_toList] at hle; exact hle)), rep_bin ?_⟩
    have : t1.data.toList ++ t2.data.toList = (t1 ++ t2).data.toList := by simp [ByteArray.data_append]
    rw [this]; exact .str _) c

end rules
end Go.Proofs.Ytioechdfghglhaa.SL
