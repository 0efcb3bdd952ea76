/- The program logic, eleventh part: forms for the printer, conversions. -/
import Derived.Test.YtioechdfghglhaaSlK
import Derived.Laws.BytesString
namespace Go.Proofs.Ytioechdfghglhaa.SL
set_option linter.unusedVariables false
set_option linter.unusedSimpArgs false
open Go Go.RowKit

/-- A state that may be weakened into one of this form. -/
def Into (I : Nat → Slots → Defs → List Chunk → Prop) (n : Nat) (s : Slots) (δ : Defs) (σ : List Chunk) : Prop := ∃ s' σ', SWk s s' ∧ Sub σ' σ ∧ I n s' δ σ'

/-- Data of so many cells each, none a struct within a struct. -/
def Sized (sz : Nat) (xs : List V) : Prop := ∀ x ∈ xs, x.cells.length = sz ∧ x.flat = true

theorem sized_nil {sz : Nat} : Sized sz [] := fun _ h => absurd h (by simp)
theorem sized_cons {sz : Nat} {x : V} {xs : List V} (h1 : x.cells.length = sz) (h2 : x.flat = true) (h : Sized sz xs) : Sized sz (x :: xs) := fun y hy => by
  rcases List.mem_cons.mp hy with rfl | hy
  · exact ⟨h1, h2⟩
  · exact h y hy
theorem sized_append {sz : Nat} {xs ys : List V} (h1 : Sized sz xs) (h2 : Sized sz ys) : Sized sz (xs ++ ys) := fun y hy => by
  rcases List.mem_append.mp hy with hy | hy
  · exact h1 y hy
  · exact h2 y hy
theorem sized_map {α : Type} {sz : Nat} {l : List α} {f : α → V} (h : ∀ a, (f a).cells.length = sz ∧ (f a).flat = true) : Sized sz (l.map f) := fun y hy => by
  obtain ⟨a, _, rfl⟩ := List.mem_map.mp hy
  exact h a

section rules
variable {P : Program} {ops : Array Oper} {Q : Post} {s : Slots} {δ : Defs} {σ : List Chunk} {o : Oper} {rest : List Oper}

theorem sw_loopw {c : Code} (I : Nat → Slots → Defs → List Chunk → Prop) (h₀ : ∃ n, Into I n s δ σ)
    (round : ∀ n s δ σ, I n s δ σ → SW P c (thenQ (fun s' δ' σ' => ∃ m, m < n ∧ Into I m s' δ' σ') Q) s δ σ) : SW P (.loop c) Q s δ σ := by
  obtain ⟨n, h₀⟩ := h₀
  refine sw_loop (Into I) n h₀ fun n s δ σ hI => ?_
  obtain ⟨s', σ', h1, h2, h3⟩ := hI
  exact sw_weak h1 (sw_less h2 (round n s' δ σ' h3))

/-- A guard: both ways. -/
theorem sl_guard_s {j : Nat} {want b : Bool} {t : Tmp} (hg : o.guard = some (j, want)) (hj : (ops[j]?).bind (·.dst) = some t) (hb : evalO s (.tmp t) = .val (.bool b))
    (hy : b = want → SL P ops ({ o with guard := none } :: rest) Q s δ σ) (hn : b = !want → SL P ops rest Q (sput s o.dst (.tup [])) δ σ) : SL P ops (o :: rest) Q s δ σ :=
  sl_guard hg hj hb hy fun h => hn (by cases b <;> cases want <;> first | rfl | exact absurd rfl h)

theorem sl_app {t u e : TypeId} {x y : Operand} {v : Value} {xs ys zs : List V} {sz bytes : Nat} (hg : o.guard = none) (ho : o.op = .call { callee := .builtin .append, args := #[x, y], argTypes := #[t, u] })
    (hx : evalO s x = .own v xs) (hy : (evalO s y).asList = some ys) (ht : P.underlying t = some (.slice e)) (hu : ∃ d, P.underlying u = some d ∧ isInt d = false)
    (he : elOf P e = some (sz, bytes)) (hxs : Sized sz xs) (hys : Sized sz ys) (hfit : (xs.length + ys.length) * bytes ≤ 140737488355328) (hz : xs ++ ys = zs)
    (c : ∀ v', SL P ops rest Q (sput s o.dst (.own v' zs)) δ (.spare v' sz :: σ)) : SL P ops (o :: rest) Q s δ (.spare v sz :: σ) := by
  subst hz
  exact sl_append hg ho hx hy ht hu he (fun x hx => (hxs x hx).1) hys hfit c

theorem sl_app_str {t u e : TypeId} {x y : Operand} {v : Value} {xs zs : List V} {l : List UInt8} {bytes : Nat} (hg : o.guard = none) (ho : o.op = .call { callee := .builtin .append, args := #[x, y], argTypes := #[t, u] })
    (hx : evalO s x = .own v xs) (hy : evalO s y = .val (.str l)) (ht : P.underlying t = some (.slice e)) (hu : P.underlying u = some .string)
    (he : elOf P e = some (1, bytes)) (hxs : Sized 1 xs) (hfit : (xs.length + l.length) * bytes ≤ 140737488355328) (hz : xs ++ l.map byteV = zs)
    (c : ∀ v', SL P ops rest Q (sput s o.dst (.own v' zs)) δ (.spare v' 1 :: σ)) : SL P ops (o :: rest) Q s δ (.spare v 1 :: σ) := by
  subst hz
  exact sl_append_str hg ho hx hy ht hu he (fun x hx => (hxs x hx).1) hfit c

/-- The same datum in other words. -/
theorem sl_set (t : Nat) (d' : D) (h : s.get t = d') (c : SL P ops rest Q (sput s (some t) d') δ σ) : SL P ops rest Q s δ σ := fun G a w hi hr =>
  c G a w hi (hr.recast t fun v r => h ▸ r)

theorem sw_set {c : Code} (t : Nat) (d' : D) (h : s.get t = d') (k : SW P c Q (sput s (some t) d') δ σ) : SW P c Q s δ σ := fun G a w hi hr =>
  k G a w hi (hr.recast t fun v r => h ▸ r)

theorem wrap_i64 {n : Int} (h0 : -9223372036854775808 ≤ n) (h1 : n ≤ 9223372036854775807) : IntKind.i64.wrap n = n := by
  unfold IntKind.wrap
  have e1 : (2 : Int) ^ IntKind.i64.bits = 18446744073709551616 := by decide
  have e2 : (2 : Int) ^ (IntKind.i64.bits - 1) = 9223372036854775808 := by decide
  rw [e1, e2]
  by_cases h : n % 18446744073709551616 ≥ 9223372036854775808
  · have : (IntKind.i64.signed && decide (n % 18446744073709551616 ≥ 9223372036854775808)) = true := by simp [IntKind.signed]; omega
    simp only [this, if_true]; omega
  · have : (IntKind.i64.signed && decide (n % 18446744073709551616 ≥ 9223372036854775808)) = false := by simp [IntKind.signed]; omega
    simp only [this, Bool.false_eq_true, if_false]; omega

theorem wrap_u64 {n : Int} (h0 : 0 ≤ n) (h1 : n < 18446744073709551616) : IntKind.u64.wrap n = n := by
  unfold IntKind.wrap
  simp only [IntKind.bits, IntKind.signed, Bool.false_and, Bool.false_eq_true, if_false]
  omega

theorem wrap_u8 {n : Int} (h0 : 0 ≤ n) (h1 : n < 256) : IntKind.u8.wrap n = n := by
  unfold IntKind.wrap
  simp only [IntKind.bits, IntKind.signed, Bool.false_and, Bool.false_eq_true, if_false]
  omega

/-- A sum that stays within its kind. -/
theorem sl_add {t t' : TypeId} {x y : Operand} {m n : Int} (hg : o.guard = none) (ho : o.op = .binOp .add t x y t')
    (hx : evalO s x = .val (.int .i64 m)) (hy : evalO s y = .val (.int .i64 n)) (h : -9223372036854775808 ≤ m + n ∧ m + n ≤ 9223372036854775807)
    (c : SL P ops rest Q (sput s o.dst (.val (.int .i64 (m + n)))) δ σ) : SL P ops (o :: rest) Q s δ σ :=
  sl_bin hg ho hx hy (by simp only [binI]; rw [wrap_i64 h.1 h.2]) c

theorem sl_sub_ {t t' : TypeId} {x y : Operand} {m n : Int} (hg : o.guard = none) (ho : o.op = .binOp .sub t x y t')
    (hx : evalO s x = .val (.int .i64 m)) (hy : evalO s y = .val (.int .i64 n)) (h : -9223372036854775808 ≤ m - n ∧ m - n ≤ 9223372036854775807)
    (c : SL P ops rest Q (sput s o.dst (.val (.int .i64 (m - n)))) δ σ) : SL P ops (o :: rest) Q s δ σ :=
  sl_bin hg ho hx hy (by simp only [binI]; rw [wrap_i64 h.1 h.2]) c

/-- A counter's next. -/
theorem sl_inc {t t' : TypeId} {x y : Operand} {k : Nat} (hg : o.guard = none) (ho : o.op = .binOp .add t x y t')
    (hx : evalO s x = .val (.int .i64 (k : Int))) (hy : evalO s y = .val (.int .i64 1)) (h : k < 9223372036854775807)
    (c : SL P ops rest Q (sput s o.dst (.val (.int .i64 ((k + 1 : Nat) : Int)))) δ σ) : SL P ops (o :: rest) Q s δ σ :=
  sl_bin hg ho hx hy (by simp only [binI]; rw [wrap_i64 (by omega) (by omega)]; rfl) c

theorem map_congr_all {α : Type} {β : Type} {f g : α → β} (h : ∀ a, f a = g a) (l : List α) : l.map f = l.map g := List.map_congr_left fun a _ => h a

theorem bytes_of {C : Imm} {l : List UInt8} {vs : Nat → Value} (h : ∀ k y, ((l.map byteV).flatMap V.cells)[k]? = some y → RepV C (vs k) y) : ∀ k (hk : k < l.length), vs k = .int .u8 (l[k].toNat : Int) := by
  intro k hk
  have hf : (l.map byteV).flatMap V.cells = l.map byteV := (one_flat _ (by simp [List.all_eq_true, V.one, byteV])).1
  have := h k (byteV l[k]) (by rw [hf, List.getElem?_map, List.getElem?_eq_getElem hk]; rfl)
  generalize vs k = u at this ⊢
  cases this; rfl

theorem push_fold (l : List UInt8) : ∀ s : ByteArray, ((l.map fun b => (b.toNat : Int)).foldl (fun (r : ByteArray) n => r.push (UInt8.ofNat n.toNat)) s).data.toList = s.data.toList ++ l := by
  induction l with
  | nil => intro s; simp
  | cons b l ih =>
    intro s
    rw [List.map_cons, List.foldl_cons, ih]
    have : (s.push (UInt8.ofNat ((b.toNat : Int)).toNat)).data.toList = s.data.toList ++ [b] := by
      simp [ByteArray.push]
    rw [this, List.append_assoc]; rfl

/-- 'string(b)'. -/
theorem conv_bytes_str {G : Gh} {σ : List Chunk} {w : World} (hi : Inv G σ w) {t t' e : TypeId} {v : Value} {l : List UInt8} (r : RepV G.C v (.list (l.map byteV)))
    (ht : P.underlying t = some (.slice e)) (he : P.underlying e = some (.int .u8)) (ht' : P.underlying t' = some .string) :
    ∃ b : ByteArray, (convert t t' v).run P w = .ok (.string b) w ∧ b.data.toList = l := by
  obtain ⟨a, c, rfl, hc⟩ := rep_list_len r
  rw [run_convert_bytes_string w t t' e a _ c ht he ht']
  obtain ⟨_, h1, vs, h2, h3⟩ := cells_of_list r (sz := 1) (fun x hx => (byteV_cells l x hx).1)
  have hv := bytes_of h3
  simp only [List.length_map] at h2 hc ⊢
  cases a with
  | none =>
    have hl : l = [] := by
      by_cases h : l = []
      · exact h
      · obtain ⟨b, f, hb⟩ := h1 (by simpa using h); cases hb
    subst hl
    exact ⟨_, rfl, rfl⟩
  | some a =>
    have hload : (loadCells a l.length).run P w = .ok ((l.map fun b => (b.toNat : Int)).map (Value.int .u8)).toArray w := by
      have := run_loadCells (P := P) w a l.length vs (fun j hj => by
        obtain ⟨b, f, hb⟩ := h1 (by intro h; simp at h; subst h; simp at hj)
        cases hb
        rw [addr_add]
        exact hi.agree _ _ _ (h2 b f j rfl (by omega)))
      rw [this]
      congr 2
      apply List.ext_getElem
      · simp
      · intro k g1 g2
        have hk : k < l.length := by simpa using g1
        simp only [List.getElem_map, List.getElem_range]
        exact hv k hk
    refine ⟨_, run_bytesToString w a l.length c _ hload, ?_⟩
    rw [push_fold]; rfl

theorem sl_bytes_str {t t' e : TypeId} {x : Operand} {l : List UInt8} (hg : o.guard = none) (ho : o.op = .convert t t' x) (hx : (evalO s x).asList = some (l.map byteV))
    (ht : P.underlying t = some (.slice e)) (he : P.underlying e = some (.int .u8)) (ht' : P.underlying t' = some .string)
    (c : SL P ops rest Q (sput s o.dst (.val (.str l))) δ σ) : SL P ops (o :: rest) Q s δ σ :=
  sl_op hg fun G a w hi hr => by
    obtain ⟨b, h1, rfl⟩ := conv_bytes_str (P := P) hi (asList_rep (hr.eval x) hx) ht he ht'
    exact ⟨_, w, G, _, σ, by simp only [execOp, ho, Sem.run_bind, h1, Result.andThen_ok, Sem.run_pure], G.le_refl, hi, rep_bin (.str b), c⟩

theorem inv_kept_one {G : Gh} {K : Exacts} {w : World} (h : Kept G.C K w) : ∀ b o v, G.C b o = some v → w.cell? ⟨b, o, none⟩ = some v := h.1

theorem conv_bytes_str' {C : Imm} {v : Value} {l : List UInt8} {t t' e : TypeId} (r : RepV C v (.list (l.map byteV)))
    (ht : P.underlying t = some (.slice e)) (he : P.underlying e = some (.int .u8)) (ht' : P.underlying t' = some .string) :
    ∃ b : ByteArray, b.data.toList = l ∧ ∀ w : World, (∀ b o v, C b o = some v → w.cell? ⟨b, o, none⟩ = some v) → (convert t t' v).run P w = .ok (.string b) w := by
  obtain ⟨a, c, rfl, hc⟩ := rep_list_len r
  obtain ⟨_, h1, vs, h2, h3⟩ := cells_of_list r (sz := 1) (fun x hx => (byteV_cells l x hx).1)
  have hv := bytes_of h3
  simp only [List.length_map] at h2 hc ⊢
  cases a with
  | none =>
    have hl : l = [] := by
      by_cases h : l = []
      · exact h
      · obtain ⟨b, f, hb⟩ := h1 (by simpa using h); cases hb
    subst hl
    exact ⟨.empty, rfl, fun w _ => by rw [run_convert_bytes_string w t t' e none _ c ht he ht']; rfl⟩
  | some a =>
    refine ⟨(l.map fun b => (b.toNat : Int)).foldl (fun r n => r.push (UInt8.ofNat n.toNat)) ByteArray.empty, by rw [push_fold]; rfl, fun w hw => ?_⟩
    rw [run_convert_bytes_string w t t' e _ _ c ht he ht']
    refine run_bytesToString w a l.length c _ ?_
    have := run_loadCells (P := P) w a l.length vs (fun j hj => by
      obtain ⟨b, f, hb⟩ := h1 (by intro h; simp at h; subst h; simp at hj)
      cases hb
      rw [addr_add]
      exact hw _ _ _ (h2 b f j rfl (by omega)))
    rw [this]
    congr 2
    apply List.ext_getElem
    · simp
    · intro k g1 g2
      have hk : k < l.length := by simpa using g1
      simp only [List.getElem_map, List.getElem_range]
      exact hv k hk

theorem pu_bytes_str {K : Exacts} {t t' e : TypeId} {x : Operand} {l : List UInt8} (ho : o.op = .convert t t' x) (hx : (evalO s x).asList = some (l.map byteV))
    (ht : P.underlying t = some (.slice e)) (he : P.underlying e = some (.int .u8)) (ht' : P.underlying t' = some .string) : PureOp P K s δ o (.val (.str l)) := fun G a hr => by
  obtain ⟨b, rfl, h1⟩ := conv_bytes_str' (P := P) (asList_rep (hr.eval x) hx) ht he ht'
  exact ⟨_, rep_bin (.str b), fun w hk => by simp only [execOp, ho, Sem.run_bind, h1 w hk.1, Result.andThen_ok, Sem.run_pure]⟩

/-- Greater of two numbers. -/
theorem sl_max {x y : Operand} {at' : Array TypeId} {k : IntKind} {m n : Int} (hg : o.guard = none) (ho : o.op = .call { callee := .builtin .max, args := #[x, y], argTypes := at' })
    (hx : evalO s x = .val (.int k m)) (hy : evalO s y = .val (.int k n)) (c : SL P ops rest Q (sput s o.dst (.val (.int k (if n > m then n else m)))) δ σ) : SL P ops (o :: rest) Q s δ σ :=
  sl_pure hg (fun G a w hi hr => by
    have h1 := hr.eval x; rw [hx] at h1; have h1 := rep_int h1
    have h2 := hr.eval y; rw [hy] at h2; have h2 := rep_int h2
    refine ⟨_, run_call_builtin ho ?_, rep_bin (.int _ _)⟩
    simp [builtin, Builtin.max_, h1, h2, Builtin.max2]) c

theorem pu_max {K : Exacts} {x y : Operand} {at' : Array TypeId} {k : IntKind} {m n : Int} (ho : o.op = .call { callee := .builtin .max, args := #[x, y], argTypes := at' })
    (hx : evalO s x = .val (.int k m)) (hy : evalO s y = .val (.int k n)) : PureOp P K s δ o (.val (.int k (if n > m then n else m))) := fun G a hr => by
  have h1 := hr.eval x; rw [hx] at h1; have h1 := rep_int h1
  have h2 := hr.eval y; rw [hy] at h2; have h2 := rep_int h2
  refine ⟨_, rep_bin (.int _ _), fun w _ => run_call_builtin ho ?_⟩
  simp [builtin, Builtin.max_, h1, h2, Builtin.max2]

theorem sl_min {x y : Operand} {at' : Array TypeId} {k : IntKind} {m n : Int} (hg : o.guard = none) (ho : o.op = .call { callee := .builtin .min, args := #[x, y], argTypes := at' })
    (hx : evalO s x = .val (.int k m)) (hy : evalO s y = .val (.int k n)) (c : SL P ops rest Q (sput s o.dst (.val (.int k (if n < m then n else m)))) δ σ) : SL P ops (o :: rest) Q s δ σ :=
  sl_pure hg (fun G a w hi hr => by
    have h1 := hr.eval x; rw [hx] at h1; have h1 := rep_int h1
    have h2 := hr.eval y; rw [hy] at h2; have h2 := rep_int h2
    refine ⟨_, run_call_builtin ho ?_, rep_bin (.int _ _)⟩
    simp [builtin, Builtin.min_, h1, h2, Builtin.min2]) c

theorem sa_case {fuel : Nat} {listed : Array Bool} {K : Exacts} (b : Bool) (ht : b = true → SA P ops fuel listed Q s δ σ K) (hf : b = false → SA P ops fuel listed Q s δ σ K) : SA P ops fuel listed Q s δ σ K := by
  cases b
  · exact hf rfl
  · exact ht rfl

/-- A call of a function value. -/
theorem sl_callv {x : Operand} {l : List Operand} {at' : Array TypeId} {f : FuncId} {caps ds : List D} {σ' : List Chunk} {R : D → List Chunk → Prop} {Rp : List PanicEntry → List Chunk → Prop} (hg : o.guard = none)
    (ho : o.op = .call { callee := .value x, args := l.toArray, argTypes := at' }) (hx : evalO s x = .func f caps) (hc : callable P f = true)
    (hs : FSpecP P f ds σ' R Rp) (hw : Weaks (l.map (evalO s) ++ caps) ds) (hp : Sub σ' σ)
    (k : ∀ d σ', R d σ' → SL P ops rest Q (sput s o.dst d) δ σ') (kp : ∀ ch σ', Rp ch σ' → Q (.panic ch) s δ σ') : SL P ops (o :: rest) Q s δ σ :=
  sl_less hp (sl_call hg ho hx hc hw hs k kp)

theorem pu_eq_nil {K : Exacts} {t t' e : TypeId} {x : Operand} {b : Bool} (ho : o.op = .binOp .eql t x (.const (.pointer none)) t') (hx : (evalO s x).isNil = some b)
    (ht : P.underlying t = some (.pointer e)) : PureOp P K s δ o (.val (.bool b)) := fun G a hr => by
  obtain ⟨ad, h1, h2⟩ := isNil_rep (hr.eval x) hx
  exact ⟨_, rep_bin (.bool b), fun w _ => run_execBin ho (by rw [h1]; exact run_guard_ptr ..) (by rw [h1, ← h2]; exact (run_eql_ptr_nil ht ad).1)⟩

theorem pu_index_str {K : Exacts} {t : TypeId} {x i : Operand} {k : IntKind} {n : Int} {l : List UInt8} {u : UInt8} (ho : o.op = .index t x i)
    (hx : evalO s x = .val (.str l)) (hn : evalO s i = .val (.int k n)) (ht : P.underlying t = some .string) (h0 : 0 ≤ n) (hu : l[n.toNat]? = some u) : PureOp P K s δ o (.val (.int .u8 (u.toNat : Int))) := fun G a hr => by
  obtain ⟨hlt, rfl⟩ := List.getElem?_eq_some_iff.mp hu
  have h1 := hr.eval x; rw [hx] at h1; obtain ⟨t1, e1, rfl⟩ := rep_str h1
  have h2 := hr.eval i; rw [hn] at h2; have e2 := rep_int h2
  refine ⟨_, rep_bin (.int _ _), fun w _ => ?_⟩
  have hsz : n.toNat < t1.size := by simp only [Array.length_toList] at hlt; exact hlt
  have hget : t1[n.toNat]? = some (t1.data.toList[n.toNat]) := by
    rw [getElem?_pos t1 n.toNat hsz]; rfl
  simp only [execOp, ho, e1, e2, Instr.index, asIntOf, Sem.run_bind, Sem.run_pure, Result.andThen_ok, run_under ht, h0, if_true, hget]

/-! ### Rules that keep a slot's own term -/

noncomputable def opd (s : Slots) : Operand → Option D
  | .tmp t => cond (Nat.blt t s.n) (look s.l t) none
  | .const v => some (ofConst v)
  | .func f => some (.func f [])
  | .global _ => none

theorem opd_eval {x : Operand} {d : D} (h : opd s x = some d) : evalO s x = d := by
  cases x <;> simp only [opd, Option.some.injEq, reduceCtorEq] at h
  · rename_i t
    by_cases hlt : t < s.n
    · rw [evalO_lt hlt]
      have : Nat.blt t s.n = true := by simpa [Nat.blt_eq] using hlt
      rw [this] at h
      show orJunk (look s.l t) = d
      have h : look s.l t = some d := h
      rw [h]; rfl
    · have : Nat.blt t s.n = false := by cases e : Nat.blt t s.n with | false => rfl | true => exact absurd (Nat.blt_eq.mp e) hlt
      rw [this] at h; cases h
  · exact h
  · exact h

inductive OpDs (s : Slots) : List (Nat × Operand) → List (Nat × D) → Prop
  | nil : OpDs s [] []
  | cons {i : Nat} {x : Operand} {d : D} {ps : List (Nat × Operand)} {ds : List (Nat × D)} (h : opd s x = some d) (hs : OpDs s ps ds) : OpDs s ((i, x) :: ps) ((i, d) :: ds)

theorem OpDs.eq {parts : List (Nat × Operand)} {pds : List (Nat × D)} (h : OpDs s parts pds) : (parts.map fun p => (p.1, evalO s p.2)) = pds := by
  induction h with
  | nil => rfl
  | cons h _ ih => rw [List.map_cons, ih, opd_eval h]

inductive OpLs (s : Slots) : List Operand → List D → Prop
  | nil : OpLs s [] []
  | cons {x : Operand} {d : D} {ps : List Operand} {ds : List D} (h : opd s x = some d) (hs : OpLs s ps ds) : OpLs s (x :: ps) (d :: ds)

theorem OpLs.eq {l : List Operand} {ds : List D} (h : OpLs s l ds) : l.map (evalO s) = ds := by
  induction h with
  | nil => rfl
  | cons h _ ih => rw [List.map_cons, ih, opd_eval h]

theorem sl_mv {x : Operand} {d : D} (hg : o.guard = none) (ho : o.op = .move x) (hd : opd s x = some d) (k : SL P ops rest Q (sput s o.dst d) δ σ) : SL P ops (o :: rest) Q s δ σ :=
  sl_move hg ho (by rw [opd_eval hd]; exact k)
theorem sl_as {x : Operand} {d : D} (hg : o.guard = none) (ho : o.op = .assign x) (hd : opd s x = some d) (k : SL P ops rest Q (sput s o.dst d) δ σ) : SL P ops (o :: rest) Q s δ σ :=
  sl_assign hg ho (by rw [opd_eval hd]; exact k)
theorem sl_pk_t {cd x y : Operand} {b : Bool} {d : D} (hg : o.guard = none) (ho : o.op = .pick cd x y) (hb : evalO s cd = .val (.bool b)) (h : b = true) (hd : opd s x = some d)
    (k : SL P ops rest Q (sput s o.dst d) δ σ) : SL P ops (o :: rest) Q s δ σ := sl_pick_t hg ho hb h (by rw [opd_eval hd]; exact k)
theorem sl_pk_f {cd x y : Operand} {b : Bool} {d : D} (hg : o.guard = none) (ho : o.op = .pick cd x y) (hb : evalO s cd = .val (.bool b)) (h : b = false) (hd : opd s y = some d)
    (k : SL P ops rest Q (sput s o.dst d) δ σ) : SL P ops (o :: rest) Q s δ σ := sl_pick_f hg ho hb h (by rw [opd_eval hd]; exact k)
theorem sl_nc {x : Operand} {d : D} (hg : o.guard = none) (ho : o.op = .nilCheck x) (hd : opd s x = some d) (hx : d.sure = true)
    (c : SL P ops rest Q (sput s o.dst d) δ σ) : SL P ops (o :: rest) Q s δ σ := sl_nilCheck hg ho (by rw [opd_eval hd]; exact hx) (by rw [opd_eval hd]; exact c)
theorem sl_bx {t : TypeId} {x : Operand} {d : D} (hg : o.guard = none) (ho : o.op = .box t x) (hd : opd s x = some d) (hk : d.known = true)
    (c : ∀ b, SL P ops rest Q (sput s o.dst (.ptr b 0)) δ (.blk b d.cells :: σ)) : SL P ops (o :: rest) Q s δ σ :=
  sl_box hg ho (by rw [opd_eval hd]; exact hk) (fun b => by rw [opd_eval hd]; exact c b)
theorem sl_bx_imm {t : TypeId} {x : Operand} {d : D} {xs : List V} (hg : o.guard = none) (ho : o.op = .box t x) (hd : opd s x = some d) (hk : d.known = true) (hx : toVs d.cells = some xs)
    (c : SL P ops rest Q (sput s o.dst (.rp xs)) δ σ) : SL P ops (o :: rest) Q s δ σ :=
  sl_box_imm hg ho (by rw [opd_eval hd]; exact hk) (by rw [opd_eval hd]; exact hx) c
theorem sl_st {t : TypeId} {x y : Operand} {b f n : Nat} {ds : List D} {d : D} (hg : o.guard = none) (ho : o.op = .store t x y) (hx : evalO s x = .ptr b f) (hd : opd s y = some d)
    (hn : szOf P t = some n) (hk : d.known = true) (hc : d.cells.all D.cell = true) (hl : d.cells.length = n) (hle : f + n ≤ ds.length)
    (c : SL P ops rest Q (sput s o.dst .junk) δ (.blk b (putAt ds f d.cells) :: σ)) : SL P ops (o :: rest) Q s δ (.blk b ds :: σ) := by
  have e := opd_eval hd
  subst e
  exact sl_store0 hg ho hx hn hk (fun d hd => List.all_eq_true.mp hc d hd) hl hle c
theorem sl_bd {t : TypeId} {parts : List (Nat × Operand)} {pl : List (Nat × Nat)} {zs ds : List D} {pds : List (Nat × D)} (hg : o.guard = none) (ho : o.op = .build t parts.toArray)
    (hpd : OpDs s parts pds)
    (hp : buildInfo P t = some pl) (hz : zeroDs P t = some zs) (hf : fillD (fun i => pl[i]?) zs pds = some ds)
    (c : SL P ops rest Q (sput s o.dst (.agg ds)) δ σ) : SL P ops (o :: rest) Q s δ σ := by
  have hpd := hpd.eq
  subst hpd
  exact sl_build hg ho hp hz hf c
theorem sl_bs1 {t e : TypeId} {len : Nat} {parts : List (Nat × Operand)} {ds : List D} {xs : List V} {pds : List (Nat × D)} (hg : o.guard = none) (ho : o.op = .buildSlice t len parts.toArray)
    (hpd : OpDs s parts pds)
    (ht : P.underlying t = some (.slice e)) (hs : szOf P e = some 1) (hz : (zeroOf P e).isSome = true) (hlim : len * 1 ≤ 16777216)
    (hf : fillD (fun i => some (i * 1, 1)) (List.replicate (len * 1) .junk) pds = some ds) (hx : toVs ds = some xs)
    (hl : xs.length = len) (hxs : xs.all V.one = true)
    (c : SL P ops rest Q (sput s o.dst (.fix xs)) δ σ) : SL P ops (o :: rest) Q s δ σ := by
  have hpd := hpd.eq
  subst hpd
  exact sl_buildSlice1 hg ho ht hs hz hlim hf hx hl hxs c
theorem sl_bsn {t e : TypeId} {len sz : Nat} {parts : List (Nat × Operand)} {ds : List D} (xs : List V) {pds : List (Nat × D)} (hg : o.guard = none) (ho : o.op = .buildSlice t len parts.toArray)
    (hpd : OpDs s parts pds)
    (ht : P.underlying t = some (.slice e)) (hs : szOf P e = some sz) (hz : (zeroOf P e).isSome = true) (hlim : len * sz ≤ 16777216)
    (hf : fillD (fun i => some (i * sz, sz)) (List.replicate (len * sz) .junk) pds = some ds) (hx : toVs ds = some (xs.flatMap V.cells))
    (hl : xs.length = len) (hxs : Sized sz xs)
    (c : SL P ops rest Q (sput s o.dst (.fix xs)) δ σ) : SL P ops (o :: rest) Q s δ σ := by
  have hpd := hpd.eq
  subst hpd
  exact sl_buildSlice hg ho ht hs hz hlim hf hx hl (fun x h => (hxs x h).1) c
theorem sl_mf {f : FuncId} {l : List Operand} {ds : List D} (hg : o.guard = none) (ho : o.op = .makeFunc (.func f) #[] l.toArray) (hd : OpLs s l ds)
    (c : SL P ops rest Q (sput s o.dst (.func f ds)) δ σ) : SL P ops (o :: rest) Q s δ σ := by
  have hd := hd.eq
  subst hd
  exact sl_makeFunc hg ho c
theorem sl_mi {t : TypeId} {x : Operand} {d : TypeDesc} {dd : D} (hg : o.guard = none) (ho : o.op = .makeInterface t x) (ht : P.underlying t = some d) (hd : ∀ ms, d ≠ .interface ms) (hx : opd s x = some dd)
    (c : SL P ops rest Q (sput s o.dst (ifaceOf t dd)) δ σ) : SL P ops (o :: rest) Q s δ σ := sl_makeInterface hg ho ht hd (by rw [opd_eval hx]; exact c)
theorem pu_mv {K : Exacts} {x : Operand} {d : D} (ho : o.op = .move x) (hd : opd s x = some d) : PureOp P K s δ o d := by rw [← opd_eval hd]; exact pu_move ho
theorem pu_nc {K : Exacts} {x : Operand} {d : D} (ho : o.op = .nilCheck x) (hd : opd s x = some d) (hx : d.sure = true) : PureOp P K s δ o d := by
  have e := opd_eval hd
  subst e
  exact pu_nilCheck ho hx
theorem pu_pk_t {K : Exacts} {cd x y : Operand} {b : Bool} {d : D} (ho : o.op = .pick cd x y) (hb : evalO s cd = .val (.bool b)) (h : b = true) (hd : opd s x = some d) : PureOp P K s δ o d := by rw [← opd_eval hd]; exact pu_pick_t ho hb h
theorem pu_pk_f {K : Exacts} {cd x y : Operand} {b : Bool} {d : D} (ho : o.op = .pick cd x y) (hb : evalO s cd = .val (.bool b)) (h : b = false) (hd : opd s y = some d) : PureOp P K s δ o d := by rw [← opd_eval hd]; exact pu_pick_f ho hb h
theorem pu_bd {K : Exacts} {t : TypeId} {parts : List (Nat × Operand)} {pl : List (Nat × Nat)} {zs ds : List D} {pds : List (Nat × D)} (ho : o.op = .build t parts.toArray) (hpd : OpDs s parts pds)
    (hp : buildInfo P t = some pl) (hz : zeroDs P t = some zs) (hf : fillD (fun i => pl[i]?) zs pds = some ds) : PureOp P K s δ o (.agg ds) := by
  have hpd := hpd.eq
  subst hpd
  exact pu_build ho hp hz hf
theorem pu_mf {K : Exacts} {f : FuncId} {l : List Operand} {ds : List D} (ho : o.op = .makeFunc (.func f) #[] l.toArray) (hd : OpLs s l ds) : PureOp P K s δ o (.func f ds) := fun G a hr => by
  obtain ⟨h1, h2⟩ := repDs_map hr l
  have hd := hd.eq
  subst hd
  exact ⟨.func (.func f) #[] (l.toArray.map a.eval), .func f _ _ h1 h2, fun w _ => by simp only [execOp, ho, Instr.makeFunc, Sem.run_bind, Sem.run_pure, Result.andThen_ok, List.map_toArray, List.map_nil]⟩
theorem pu_extract {K : Exacts} {x : Operand} {i : Nat} {ds : List D} {d : D} (ho : o.op = .extract x i) (hx : evalO s x = .tup ds) (hd : ds[i]? = some d) : PureOp P K s δ o d := fun G a hr => by
  have h1 := hr.eval x; rw [hx] at h1
  generalize hv : a.eval x = v at h1
  obtain ⟨hlt, rfl⟩ := List.getElem?_eq_some_iff.mp hd
  cases h1 with
  | tup vs ds hsz hrep =>
    have hlt2 : i < vs.size := by omega
    refine ⟨vs[i], ?_, fun w _ => ?_⟩
    · have := hrep i hlt
      simpa only [Array.getD_eq_getD_getElem?, Array.getElem?_eq_getElem hlt2, Option.getD_some] using this
    · simp only [execOp, ho, hv, Instr.extract, Array.getElem?_eq_getElem hlt2, Sem.run_bind, Sem.run_pure, Result.andThen_ok]

end rules
end Go.Proofs.Ytioechdfghglhaa.SL
