/- The program logic, eighth part: slices, fields, results, functions, calls. -/
import Derived.Test.YtioechdfghglhaaSlG
namespace Go.Proofs.Ytioechdfghglhaa.SL
set_option linter.unusedVariables false
set_option linter.unusedSimpArgs false
open Go Go.RowKit

section rules
variable {P : Program} {ops : Array Oper} {Q : Post} {s : Slots} {δ : Defs} {σ : List Chunk} {o : Oper} {rest : List Oper}

/-! ### Slices -/

theorem run_bound {P : Program} {w : World} {k : IntKind} {n : Int} {y : Nat} {code : BoundsCode} (h0 : 0 ≤ n) (h1 : n ≤ y) : (Instr.sliceBound (.int k n) y code).run P w = .ok n.toNat w := by
  unfold Instr.sliceBound
  simp only [asIntOf, Sem.run_bind, Sem.run_pure, Result.andThen_ok, h0, h1, and_self, if_true]

def lowIs (s : Slots) : Option Operand → Nat → Prop
  | none, m => m = 0
  | some z, m => ∃ k, evalO s z = .val (.int k m)

def highIs (s : Slots) (len : Nat) : Option Operand → Nat → Prop
  | none, m => m = len
  | some z, m => ∃ k, evalO s z = .val (.int k m)

theorem run_bounds {G : Gh} {a : Act} {w : World} (hr : RelA G s δ a) {isS : Bool} {len cap m n : Nat} {lo hi : Option Operand} (hlo : lowIs s lo m) (hhi : highIs s len hi n) (hmn : m ≤ n) (hn : n ≤ cap) :
    (Instr.sliceBounds isS len cap (lo.map a.eval) (hi.map a.eval) none).run P w = .ok (m, n, cap) w := by
  unfold Instr.sliceBounds
  cases hi with
  | none =>
    simp only [highIs] at hhi; subst hhi
    cases lo with
    | none => simp only [lowIs] at hlo; subst hlo; rfl
    | some z =>
      obtain ⟨k, hk⟩ := hlo
      have h2 := hr.eval z; rw [hk] at h2; have e2 := rep_int h2
      simp only [Option.map_some, Option.map_none, e2, Sem.run_bind, Sem.run_pure, Result.andThen_ok]
      rw [run_bound (by omega) (by omega)]; rfl
  | some y =>
    obtain ⟨k', hk'⟩ := hhi
    have h3 := hr.eval y; rw [hk'] at h3; have e3 := rep_int h3
    simp only [Option.map_some, e3, Sem.run_bind, Sem.run_pure, Result.andThen_ok]
    rw [run_bound (by omega) (by omega)]
    simp only [Result.andThen_ok, Int.toNat_natCast]
    cases lo with
    | none => simp only [lowIs] at hlo; subst hlo; rfl
    | some z =>
      obtain ⟨k, hk⟩ := hlo
      have h2 := hr.eval z; rw [hk] at h2; have e2 := rep_int h2
      simp only [Option.map_some, e2, Sem.run_bind]
      rw [run_bound (by omega) (by omega)]; rfl

/-- Part of a text. -/
theorem sl_slice_str {t : TypeId} {x : Operand} {lo hi : Option Operand} {l : List UInt8} (m n : Nat) (hg : o.guard = none) (ho : o.op = .slice t x lo hi none)
    (hx : evalO s x = .val (.str l)) (ht : P.underlying t = some .string) (hlo : lowIs s lo m) (hhi : highIs s l.length hi n)
    (hmn : m ≤ n) (hn : n ≤ l.length) (c : SL P ops rest Q (sput s o.dst (.val (.str ((l.drop m).take (n - m))))) δ σ) : SL P ops (o :: rest) Q s δ σ :=
  sl_pure hg (fun G a w hi' hr => by
    have h1 := hr.eval x; rw [hx] at h1; obtain ⟨t1, e1, rfl⟩ := rep_str h1
    have hsz : t1.size = t1.data.toList.length := rfl
    have hb := run_bounds (P := P) (w := w) hr (isS := false) (cap := t1.size) hlo hhi hmn (by omega)
    rw [← hsz] at hb
    refine ⟨.string (t1.extract m n), ?_, rep_bin ?_⟩
    · simp only [execOp, ho, e1, Instr.sliceAt, Instr.slice, Sem.run_bind, run_under ht, Result.andThen_ok, Option.map_none, Option.isSome_none, Bool.false_eq_true, if_false, hb, Sem.run_pure]
    · rw [← Lib.extract_data]; exact .str _) c

/-- Part of a list, as data. -/
theorem sub_list {C : Imm} {a : Option Addr} {n c : Nat} {xs : List V} {sz m h mx : Nat} (r : RepV C (.slice a n c) (.list xs)) (hsz : ∀ x ∈ xs, x.cells.length = sz) (hmh : m ≤ h) (hh : h ≤ xs.length) (hmx : h ≤ mx)
    (hc : mx ≤ c) : RepV C (.slice (if mx = m then a else a.map (·.add (m * sz))) (h - m) (mx - m)) (.list ((xs.drop m).take (h - m))) := by
  have hlen : ((xs.drop m).take (h - m)).length = h - m := by simp; omega
  cases r with
  | empty =>
    have h0 : h = 0 := by simpa using hh
    have m0 : m = 0 := by omega
    subst h0; subst m0
    simp only [Nat.sub_self, List.drop_nil, List.take_nil]
    exact .empty _ _
  | list b f c' sz' xs vs hc' h3 h4 h5 =>
    by_cases hd : h - m = 0
    · have hnil : (xs.drop m).take (h - m) = [] := by rw [hd]; rfl
      rw [hnil]
      have : ∃ f', (if mx = m then some (⟨b, f, none⟩ : Addr) else (some (⟨b, f, none⟩ : Addr)).map (·.add (m * sz))) = some ⟨b, f', none⟩ := by
        split
        · exact ⟨f, rfl⟩
        · exact ⟨f + m * sz, by rw [Option.map_some, addr_add]⟩
      obtain ⟨f', hf'⟩ := this
      rw [hf', hd]
      exact .list b f' (mx - m) 0 [] (fun _ _ => undef) (by simp) (fun i h => absurd h (by simp)) (fun i k h => absurd h (by simp)) (fun i k h => absurd h (by simp))
    · have hz : sz' = sz := by
        have h0 : 0 < xs.length := by omega
        rw [← h3 0 h0, hsz _ (List.getElem_mem h0)]
      subst hz
      rw [if_neg (by omega), Option.map_some, addr_add]
      have := RepV.list (C := C) b (f + m * sz') (mx - m) sz' ((xs.drop m).take (h - m)) (fun i k => vs (m + i) k) (by rw [hlen]; omega)
        (fun i hi => by simp only [List.getElem_take, List.getElem_drop]; exact h3 _ _)
        (fun i k hi hk => by
          rw [hlen] at hi
          have := h4 (m + i) k (by omega) hk
          rw [Nat.add_mul] at this
          rw [← this]; congr 1; omega)
        (fun i k hi hk => by
          simp only [List.getElem_take, List.getElem_drop] at hk ⊢
          exact h5 _ _ _ hk)
      rw [hlen] at this
      exact this

theorem sl_slice_list {t e : TypeId} {x : Operand} {lo hi : Option Operand} {xs : List V} {sz : Nat} (m n : Nat) (hg : o.guard = none) (ho : o.op = .slice t x lo hi none)
    (hx : (evalO s x).asList = some xs) (ht : P.underlying t = some (.slice e)) (hs : szOf P e = some sz) (hsz : ∀ x ∈ xs, x.cells.length = sz) (hlo : lowIs s lo m) (hhi : highIs s xs.length hi n)
    (hmn : m ≤ n) (hn : n ≤ xs.length) (c : SL P ops rest Q (sput s o.dst (.val (.list ((xs.drop m).take (n - m))))) δ σ) : SL P ops (o :: rest) Q s δ σ :=
  sl_pure hg (fun G a w hi' hr => by
    have r := asList_rep (hr.eval x) hx
    obtain ⟨ad, cp, hv, hcp⟩ := rep_list_len r
    rw [hv] at r
    have hb := run_bounds (P := P) (w := w) hr (isS := true) (cap := cp) hlo hhi hmn (by omega)
    refine ⟨_, ?_, rep_bin (sub_list r hsz hmn hn (by omega) (Nat.le_refl _))⟩
    simp only [execOp, ho, hv, Instr.sliceAt, Instr.slice, Sem.run_bind, run_under ht, Result.andThen_ok, Option.map_none, hb, run_sizeOf hs, Sem.run_pure]) c

/-- 'xs[:n:n]': a list without room. -/
theorem sl_slice_full {t e : TypeId} {x y z : Operand} {k k' : IntKind} {xs : List V} {sz : Nat} (n : Nat) (hg : o.guard = none) (ho : o.op = .slice t x none (some y) (some z))
    (hx : (evalO s x).asList = some xs) (ht : P.underlying t = some (.slice e)) (hs : szOf P e = some sz) (hsz : ∀ x ∈ xs, x.cells.length = sz) (hy : evalO s y = .val (.int k n)) (hz : evalO s z = .val (.int k' n))
    (hn : n ≤ xs.length) (c : SL P ops rest Q (sput s o.dst (.fix (xs.take n))) δ σ) : SL P ops (o :: rest) Q s δ σ :=
  sl_pure hg (fun G a w hi' hr => by
    have r := asList_rep (hr.eval x) hx
    obtain ⟨ad, cp, hv, hcp⟩ := rep_list_len r
    rw [hv] at r
    have h2 := hr.eval y; rw [hy] at h2; have e2 := rep_int h2
    have h3 := hr.eval z; rw [hz] at h3; have e3 := rep_int h3
    have r2 := sub_list (m := 0) (h := n) (mx := n) r hsz (Nat.zero_le _) hn (Nat.le_refl _) (by omega)
    simp only [Nat.sub_zero, List.drop_zero] at r2
    have hl : (xs.take n).length = n := by simp; omega
    refine ⟨.slice (if n = 0 then ad else ad.map (·.add (0 * sz))) n n, ?_, ?_⟩
    · have hb : (Instr.sliceBounds true xs.length cp none (some (a.eval y)) (some (a.eval z))).run P w = .ok (0, n, n) w := by
        unfold Instr.sliceBounds
        simp only [e2, e3, Sem.run_bind, if_true]
        rw [run_bound (by omega) (by omega)]
        simp only [Result.andThen_ok, Int.toNat_natCast]
        rw [run_bound (by omega) (by omega)]
        simp only [Result.andThen_ok, Int.toNat_natCast, Sem.run_pure]
      simp only [execOp, ho, hv, Instr.sliceAt, Instr.slice, Sem.run_bind, run_under ht, Result.andThen_ok, Option.map_none, Option.map_some, hb, run_sizeOf hs, Sem.run_pure, Nat.sub_zero]
    · have := RepD.fix (C := G.C) (if n = 0 then ad else ad.map (·.add (0 * sz))) (xs.take n) (by rw [hl]; exact r2)
      rw [hl] at this; exact this) c

/-! ### Fields of a value, results of a call -/

theorem sl_field0 {t : TypeId} {x : Operand} {i sz : Nat} {fs : Array Field} {ds : List D} {f : Field} {b : Bool} (hg : o.guard = none) (ho : o.op = .field t x i) (hx : Weak (evalO s x) (.agg ds))
    (ht : P.underlying t = some (.struct fs)) (hf : fs[i]? = some f) (ha : aggOf P f.type = some b) (hs : szOf P f.type = some sz) (hle : f.offset + sz ≤ ds.length) (h1 : b = false → sz = 1)
    (c : SL P ops rest Q (sput s o.dst (if b then .agg ((ds.drop f.offset).take sz) else ds[f.offset]?.getD .junk)) δ σ) : SL P ops (o :: rest) Q s δ σ :=
  sl_pure hg (fun G a w hi hr => by
    have h1' := hx _ _ (hr.eval x)
    generalize hv : a.eval x = v at h1'
    cases h1' with
    | agg vs ds hsz hrep =>
      cases b with
      | true =>
        refine ⟨.agg (vs.extract f.offset (f.offset + sz)), ?_, ?_⟩
        · simp only [execOp, ho, hv, Instr.field, Sem.run_bind, run_under ht, Result.andThen_ok, hf, asAgg, Sem.run_pure, part, run_isAgg ha, if_true, run_sizeOf hs]
        · simp only [if_true]
          refine .agg _ _ (by simp; omega) (fun k hk => ?_)
          have hk' : k < sz := by simp at hk; omega
          rw [List.getElem_take, List.getElem_drop]
          have := hrep (f.offset + k) (by omega)
          have hlt : k < (vs.extract f.offset (f.offset + sz)).size := by simp; omega
          simp only [Array.getD_eq_getD_getElem?, Array.getElem?_eq_getElem hlt, Option.getD_some, Array.getElem_extract]
          have hlt2 : f.offset + k < vs.size := by omega
          simpa only [Array.getD_eq_getD_getElem?, Array.getElem?_eq_getElem hlt2, Option.getD_some] using this
      | false =>
        have := h1 rfl
        have hlt : f.offset < ds.length := by omega
        have hlt2 : f.offset < vs.size := by omega
        refine ⟨vs[f.offset], ?_, ?_⟩
        · simp only [execOp, ho, hv, Instr.field, Sem.run_bind, run_under ht, Result.andThen_ok, hf, asAgg, Sem.run_pure, part, run_isAgg ha, Bool.false_eq_true, if_false, Array.getElem?_eq_getElem hlt2]
        · simp only [Bool.false_eq_true, if_false, List.getElem?_eq_getElem hlt, Option.getD_some]
          have := hrep f.offset hlt
          simpa only [Array.getD_eq_getD_getElem?, Array.getElem?_eq_getElem hlt2, Option.getD_some] using this) c

/-- A field of a value: is it a struct, where it lies, how many cells it has. -/
def fieldInfo (P : Program) (t : TypeId) (i : Nat) : Option (Bool × Nat × Nat) :=
  match P.underlying t with
  | some (.struct fs) => match fs[i]? with
    | some f => match aggOf P f.type, szOf P f.type with
      | some b, some n => some (b, f.offset, n)
      | _, _ => none
    | none => none
  | _ => none

theorem sl_field {t : TypeId} {x : Operand} {i off sz : Nat} {ds : List D} {b : Bool} (hg : o.guard = none) (ho : o.op = .field t x i) (hx : Weak (evalO s x) (.agg ds))
    (hf : fieldInfo P t i = some (b, off, sz)) (hle : off + sz ≤ ds.length) (h1 : b = false → sz = 1)
    (c : SL P ops rest Q (sput s o.dst (if b then .agg ((ds.drop off).take sz) else ds[off]?.getD .junk)) δ σ) : SL P ops (o :: rest) Q s δ σ := by
  unfold fieldInfo at hf
  split at hf
  · rename_i fs ht
    split at hf
    · rename_i f hfs
      split at hf
      · rename_i b' n' ha hs
        simp only [Option.some.injEq, Prod.mk.injEq] at hf
        obtain ⟨rfl, rfl, rfl⟩ := hf
        exact sl_field0 hg ho hx ht hfs ha hs hle h1 c
      · cases hf
    · cases hf
  · cases hf

theorem sl_extract {x : Operand} {i : Nat} {ds : List D} {d : D} (hg : o.guard = none) (ho : o.op = .extract x i) (hx : evalO s x = .tup ds) (hd : ds[i]? = some d)
    (c : SL P ops rest Q (sput s o.dst d) δ σ) : SL P ops (o :: rest) Q s δ σ :=
  sl_pure hg (fun G a w hi hr => by
    have h1 := hr.eval x; rw [hx] at h1
    generalize hv : a.eval x = v at h1
    obtain ⟨hlt, rfl⟩ := List.getElem?_eq_some_iff.mp hd
    cases h1 with
    | tup vs ds hsz hrep =>
      have hlt2 : i < vs.size := by omega
      refine ⟨vs[i], ?_, ?_⟩
      · simp only [execOp, ho, hv, Instr.extract, Array.getElem?_eq_getElem hlt2, Sem.run_bind, Sem.run_pure, Result.andThen_ok]
      · have := hrep i hlt
        simpa only [Array.getD_eq_getD_getElem?, Array.getElem?_eq_getElem hlt2, Option.getD_some] using this) c

/-! ### Functions, interface values -/

theorem repDs_map {G : Gh} {a : Act} (hr : RelA G s δ a) (l : List Operand) : RepDs G.C (l.toArray.map a.eval) (l.map (evalO s)) := by
  refine ⟨by simp, fun k hk => ?_⟩
  have hk' : k < l.length := by simpa using hk
  simp only [List.map_toArray, List.getElem_map, Array.getD_eq_getD_getElem?, List.getElem?_toArray, List.getElem?_map, List.getElem?_eq_getElem hk', Option.map_some, Option.getD_some]
  exact hr.eval _

theorem sl_makeFunc {f : FuncId} {l : List Operand} (hg : o.guard = none) (ho : o.op = .makeFunc (.func f) #[] l.toArray)
    (c : SL P ops rest Q (sput s o.dst (.func f (l.map (evalO s)))) δ σ) : SL P ops (o :: rest) Q s δ σ :=
  sl_pure hg (fun G a w hi hr => by
    obtain ⟨h1, h2⟩ := repDs_map hr l
    exact ⟨.func (.func f) #[] (l.toArray.map a.eval), by simp only [execOp, ho, Instr.makeFunc, Sem.run_bind, Sem.run_pure, Result.andThen_ok, List.map_toArray, List.map_nil], .func f _ _ h1 h2⟩) c

def ifaceOf : TypeId → D → D
  | t, .val x => .val (.iface t x)
  | t, d => .iface t d

theorem sl_makeInterface {t : TypeId} {x : Operand} {d : TypeDesc} (hg : o.guard = none) (ho : o.op = .makeInterface t x) (ht : P.underlying t = some d) (hd : ∀ ms, d ≠ .interface ms)
    (c : SL P ops rest Q (sput s o.dst (ifaceOf t (evalO s x))) δ σ) : SL P ops (o :: rest) Q s δ σ :=
  sl_pure hg (fun G a w hi hr => by
    refine ⟨.iface t (a.eval x), ?_, ?_⟩
    · simp only [execOp, ho, Instr.makeInterface, Sem.run_bind, run_under ht, Result.andThen_ok]
      cases d <;> first | rfl | exact absurd rfl (hd _)
    · have h1 := hr.eval x
      generalize a.eval x = vx at h1
      generalize evalO s x = dd at h1
      cases dd with
      | val y => cases h1 with | val _ _ h => exact .val _ _ (.iface t _ _ h)
      | _ => exact .iface t _ _ h1) c

/-! ### Calls -/

theorem enter_of {P : Program} {f : FuncId} {fn : Func} {c : Code} {args : Array Value} {w : World} (hf : P.funcs[f]? = some fn) (hb : fn.body = some c) (hn : (fn.name == "runtime.NumGoroutine") = false) :
    (callFunc f args).run P w = .ok (.enter f args) w := by
  unfold callFunc
  simp only [Sem.run_bind, run_program, Result.andThen_ok, hf, hn, hb, Bool.false_eq_true, if_false, Option.isNone_some, Sem.run_pure]

/-- What a call of a function needs of the program: it is there, and it has a body. -/
def callable (P : Program) (f : FuncId) : Bool :=
  match P.funcs[f]? with
  | some fn => fn.body.isSome && !(fn.name == "runtime.NumGoroutine")
  | none => false

theorem callable_run {P : Program} {f : FuncId} {args : Array Value} {w : World} (h : callable P f = true) : (callFunc f args).run P w = .ok (.enter f args) w := by
  unfold callable at h
  split at h
  · rename_i fn hf
    simp only [Bool.and_eq_true, Bool.not_eq_true'] at h
    obtain ⟨c, hc⟩ := Option.isSome_iff_exists.mp h.1
    exact enter_of hf hc h.2
  · cases h

theorem repDs_append {C : Imm} {vs us : Array Value} {ds es : List D} (h : RepDs C vs ds) (h' : RepDs C us es) : RepDs C (vs ++ us) (ds ++ es) := by
  refine ⟨by simp [h.1, h'.1], fun k hk => ?_⟩
  by_cases hlt : k < ds.length
  · have hlt2 : k < vs.size := by rw [h.1]; exact hlt
    rw [List.getElem_append_left hlt]
    have := h.2 k hlt
    simp only [Array.getD_eq_getD_getElem?] at this ⊢
    rw [Array.getElem?_append_left hlt2]; exact this
  · have hlt2 : vs.size ≤ k := by rw [h.1]; omega
    rw [List.getElem_append_right (by omega)]
    have := h'.2 (k - ds.length) (by simp at hk; omega)
    simp only [Array.getD_eq_getD_getElem?] at this ⊢
    rw [Array.getElem?_append_right hlt2, h.1]; exact this

/-- A call by a contract: of a function named, or of a function value; the arguments may be weakened first. -/
theorem sl_call {x : Operand} {l : List Operand} {at' : Array TypeId} {f : FuncId} {caps ds : List D} {R : D → List Chunk → Prop} {Rp : List PanicEntry → List Chunk → Prop} (hg : o.guard = none)
    (ho : o.op = .call { callee := .value x, args := l.toArray, argTypes := at' }) (hx : evalO s x = .func f caps) (hc : callable P f = true)
    (hw : Weaks (l.map (evalO s) ++ caps) ds) (hs : FSpecP P f ds σ R Rp)
    (k : ∀ d σ', R d σ' → SL P ops rest Q (sput s o.dst d) δ σ') (kp : ∀ ch σ', Rp ch σ' → Q (.panic ch) s δ σ') : SL P ops (o :: rest) Q s δ σ := fun G a w hi hr => by
  refine wpList_plain hg fun K hK => ?_
  have h1 := hr.eval x; rw [hx] at h1
  generalize hv : a.eval x = v at h1
  cases h1 with
  | func f vs ds' hsz hrep =>
    have hargs : RepDs G.C (l.toArray.map a.eval ++ vs) ds := (repDs_append (repDs_map hr l) ⟨hsz, hrep⟩).weak hw
    unfold Oper.wp
    have hrun : (execOp a.eval o).run P w = .ok (.enter f (l.toArray.map a.eval ++ vs)) w := by
      simp only [execOp, ho, resolve, hv, Deferred.ofValue, Sem.run_bind, Sem.run_pure, Result.andThen_ok, invoke, Array.empty_append, callable_run hc]
    rw [hrun, Oper.upon_enter]
    refine (hs G _ w hi hargs).mono fun e w' he => ?_
    cases e with
    | returned v =>
      obtain ⟨G', d, σ', g1, g2, g3, g4⟩ := he
      exact hK _ _ ((k d σ' g4).use g1 g2 ((hr.mono g1).put o.dst g3))
    | panicked ch =>
      obtain ⟨G', σ', g1, g2, g3⟩ := he
      exact ⟨G', s, δ, σ', g1, g2, hr.mono g1, kp _ _ g3⟩
    | outgrown => exact he.elim

theorem sl_less {σ' : List Chunk} (hp : Sub σ' σ) (h : SL P ops rest Q s δ σ') : SL P ops rest Q s δ σ := fun G a w hi hr => h G a w (hi.less hp) hr

/-- A call of a function named. -/
theorem sl_callf {l : List Operand} {at' : Array TypeId} {f : FuncId} {ds : List D} {σ' : List Chunk} {R : D → List Chunk → Prop} {Rp : List PanicEntry → List Chunk → Prop} (hg : o.guard = none)
    (ho : o.op = .call { callee := .value (.func f), args := l.toArray, argTypes := at' }) (hc : callable P f = true)
    (hs : FSpecP P f ds σ' R Rp) (hw : Weaks (l.map (evalO s)) ds) (hp : Sub σ' σ)
    (k : ∀ d σ', R d σ' → SL P ops rest Q (sput s o.dst d) δ σ') (kp : ∀ ch σ', Rp ch σ' → Q (.panic ch) s δ σ') : SL P ops (o :: rest) Q s δ σ :=
  sl_less hp (sl_call hg ho (x := .func f) (caps := []) rfl hc (by rw [List.append_nil]; exact hw) hs k kp)

/-! ### Nil -/

theorem run_eql_ptr_nil {P : Program} {w : World} {t e : TypeId} (ht : P.underlying t = some (.pointer e)) (a : Option Addr) : (binOp .eql t (.pointer a) (.pointer none)).run P w = .ok (.bool a.isNone) w ∧
    (binOp .neq t (.pointer a) (.pointer none)).run P w = .ok (.bool a.isSome) w := by
  have h' : ∀ d, (Op.equalIn (d + 1) t (.pointer a) (.pointer none)).run P w = .ok a.isNone w := fun d => by
    cases a <;> simp only [Op.equalIn, Sem.run_bind, run_under ht, Result.andThen_ok, Sem.run_pure] <;> rfl
  have h : (Op.equal t (.pointer a) (.pointer none)).run P w = .ok a.isNone w := h' 9999
  constructor
  · simp only [binOp, Sem.run_bind, h, Result.andThen_ok, Sem.run_pure]
  · simp only [binOp, Sem.run_bind, h, Result.andThen_ok, Sem.run_pure]
    cases a <;> rfl

/-- A pointer: nil, or not. -/
def D.isNil : D → Option Bool
  | .val .nil => some true
  | .ptr _ _ | .rp _ | .val (.ref _) => some false
  | _ => none

theorem isNil_rep {C : Imm} {v : Value} {d : D} {b : Bool} (r : RepD C v d) (h : d.isNil = some b) : ∃ a, v = .pointer a ∧ a.isNone = b := by
  cases r with
  | ptr b' f => simp only [D.isNil, Option.some.injEq] at h; subst h; exact ⟨_, rfl, rfl⟩
  | rp b' f xs vs _ _ => simp only [D.isNil, Option.some.injEq] at h; subst h; exact ⟨_, rfl, rfl⟩
  | val _ x hx =>
    cases hx <;> simp only [D.isNil, Option.some.injEq, reduceCtorEq] at h <;> subst h
    · exact ⟨_, rfl, rfl⟩
    · exact ⟨_, rfl, rfl⟩
  | _ => simp [D.isNil] at h

theorem run_guard_ptr (P : Program) (w : World) (op : BinOp) (t : TypeId) (x y : Operand) (m n : Option Addr) : (eqGuard op t x y (.pointer m) (.pointer n)).run P w = .ok () w := by
  unfold eqGuard
  cases op <;> rfl

theorem sl_eq_nil {t t' e : TypeId} {x : Operand} {b : Bool} (hg : o.guard = none) (ho : o.op = .binOp .eql t x (.const (.pointer none)) t') (hx : (evalO s x).isNil = some b)
    (ht : P.underlying t = some (.pointer e)) (c : SL P ops rest Q (sput s o.dst (.val (.bool b))) δ σ) : SL P ops (o :: rest) Q s δ σ :=
  sl_pure hg (fun G a w hi hr => by
    obtain ⟨ad, h1, h2⟩ := isNil_rep (hr.eval x) hx
    refine ⟨_, run_execBin ho (by rw [h1]; exact run_guard_ptr ..) (by rw [h1]; exact (run_eql_ptr_nil ht ad).1), rep_bin (by rw [h2]; exact .bool _)⟩) c

theorem sl_ne_nil {t t' e : TypeId} {x : Operand} {b : Bool} (hg : o.guard = none) (ho : o.op = .binOp .neq t x (.const (.pointer none)) t') (hx : (evalO s x).isNil = some b)
    (ht : P.underlying t = some (.pointer e)) (c : SL P ops rest Q (sput s o.dst (.val (.bool (!b)))) δ σ) : SL P ops (o :: rest) Q s δ σ :=
  sl_pure hg (fun G a w hi hr => by
    obtain ⟨ad, h1, h2⟩ := isNil_rep (hr.eval x) hx
    have h3 : ad.isSome = !b := by rw [← h2]; cases ad <;> rfl
    refine ⟨_, run_execBin ho (by rw [h1]; exact run_guard_ptr ..) (by rw [h1]; exact (run_eql_ptr_nil ht ad).2), rep_bin (by rw [h3]; exact .bool _)⟩) c

theorem run_guard_slice (P : Program) (w : World) (op : BinOp) (t : TypeId) (x y : Operand) (m n : Option Addr) (i j k l : Nat) : (eqGuard op t x y (.slice m i j) (.slice n k l)).run P w = .ok () w := by
  unfold eqGuard
  cases op <;> rfl

theorem run_eql_slice_nil' {P : Program} {w : World} {t e : TypeId} (ht : P.underlying t = some (.slice e)) (a : Option Addr) (i j : Nat) : (binOp .eql t (.slice a i j) (.slice none 0 0)).run P w = .ok (.bool a.isNone) w := by
  have h' : ∀ d, (Op.equalIn (d + 1) t (.slice a i j) (.slice none 0 0)).run P w = .ok a.isNone w := fun d => by
    cases a <;> simp only [Op.equalIn, Sem.run_bind, run_under ht, Result.andThen_ok, Sem.run_pure] <;> rfl
  have h : (Op.equal t (.slice a i j) (.slice none 0 0)).run P w = .ok a.isNone w := h' 9999
  simp only [binOp, Sem.run_bind, h, Result.andThen_ok, Sem.run_pure]

/-- A list held against nil: only an empty list may be nil. -/
theorem sl_list_nil {t t' e : TypeId} {x : Operand} {xs : List V} (hg : o.guard = none) (ho : o.op = .binOp .eql t x (.const (.slice none 0 0)) t') (hx : (evalO s x).asList = some xs)
    (ht : P.underlying t = some (.slice e)) (c : ∀ b : Bool, (b = true → xs = []) → SL P ops rest Q (sput s o.dst (.val (.bool b))) δ σ) : SL P ops (o :: rest) Q s δ σ :=
  sl_op hg fun G a w hi hr => by
    have r := asList_rep (hr.eval x) hx
    obtain ⟨ad, cp, h1, h2⟩ := rep_list_len r
    rw [h1] at r
    refine ⟨_, w, G, _, σ, run_execBin ho (by rw [h1]; exact run_guard_slice ..) (by rw [h1]; exact run_eql_slice_nil' ht ad _ _), G.le_refl, hi, rep_bin (.bool ad.isNone), c _ (fun hn => ?_)⟩
    cases ad with
    | none => generalize hl : xs.length = n at r; cases r with | empty => rfl
    | some a => cases hn

/-! ### From 'fix' to 'own', in a block -/

theorem sl_own_blk {b i sz : Nat} {ds : List D} {xs : List V} (hd : ds[i]? = some (.fix xs)) (c : ∀ v, SL P ops rest Q s δ (.blk b (ds.set i (.own v xs)) :: .spare v sz :: σ)) : SL P ops rest Q s δ (.blk b ds :: σ) := fun G a w hi hr => by
  obtain ⟨cs, ty, fz, h, h1, h2, h3⟩ := hi.holds _ (List.mem_cons_self ..)
  obtain ⟨hlt, hde⟩ := List.getElem?_eq_some_iff.mp hd
  have hv := h3 i hlt
  rw [hde] at hv
  generalize hval : cs.getD i undef = v at hv
  cases hv with
  | fix ad xs hr' =>
    have hi' : Inv G (.spare (.slice ad xs.length xs.length) sz :: .blk b ds :: σ) w := hi.add ⟨ad, _, _, rfl, .inl rfl⟩ (fun b e => by cases ad <;> simp [Chunk.b?] at e) (fun b o e => by cases ad <;> simp [Chunk.owns] at e) (fun b e => by cases ad <;> simp [Chunk.b?] at e)
    have hi2 := hi'.perm (List.Perm.swap ..)
    refine c (.slice ad xs.length xs.length) G a w (hi2.change (b := b) rfl (fun x e => by simpa [Chunk.b?] using e.symm) G.le_refl (fun x o v hv => .inl hv) rfl rfl rfl rfl (fun _ _ => rfl)
      (fun o v hv => hi.agree b o v hv) ⟨cs, ty, fz, h, h1, by simpa using h2, fun k hk => ?_⟩ (fun x o e => hi.apart (.blk b ds) (List.mem_cons_self ..) x o e)) hr
    by_cases e : i = k
    · subst e; rw [List.getElem_set_self, hval]; exact .own _ _ hr'
    · rw [List.getElem_set_ne e]; exact h3 k (by simpa using hk)

/-! ### Short forms for the printer -/

theorem idx_map {α : Type} {l : List α} {f : α → V} {k : Nat} (h : k < l.length) : (l.map f)[((k : Int)).toNat]? = some (f (l[k])) := by
  rw [Int.toNat_natCast, List.getElem?_map, List.getElem?_eq_getElem h]; rfl

theorem idx_get {α : Type} {l : List α} {k : Nat} (h : k < l.length) : l[((k : Int)).toNat]? = some (l[k]) := by
  rw [Int.toNat_natCast, List.getElem?_eq_getElem h]

theorem sl_indexAddr' {t e : TypeId} {x i : Operand} {k : IntKind} {n : Int} {xs : List V} {y : V} {sz : Nat} (hg : o.guard = none) (ho : o.op = .indexAddr t x i)
    (hx : (evalO s x).asList = some xs) (hn : evalO s i = .val (.int k n)) (ht : P.underlying t = some (.slice e)) (hs : szOf P e = some sz)
    (h0 : 0 ≤ n) (hy : xs[n.toNat]? = some y) (hsz : y.cells.length = sz) (c : SL P ops rest Q (sput s o.dst (.rp y.cells)) δ σ) : SL P ops (o :: rest) Q s δ σ :=
  sl_pure hg (fun G a w hi hr => by
    have h1 := asList_rep (hr.eval x) hx
    have h2 := hr.eval i; rw [hn] at h2; have e2 := rep_int h2
    obtain ⟨hlt, rfl⟩ := List.getElem?_eq_some_iff.mp hy
    generalize hv : a.eval x = v at h1
    cases h1 with
    | empty => simp at hlt
    | list b f cp sz' xs vs h1 h3 h4 h5 =>
      have hz : sz' = sz := by rw [← h3 _ hlt, hsz]
      subst hz
      refine ⟨.pointer (some ⟨b, f + n.toNat * sz', none⟩), ?_, .rp _ _ _ (vs n.toNat) (fun k hk => ?_) (fun k hk => h5 _ _ hlt hk)⟩
      · have hin : 0 ≤ n ∧ n < (xs.length : Int) := ⟨h0, by omega⟩
        simp only [execOp, ho, hv, e2, Instr.indexAt, asIntOf, Sem.run_bind, Sem.run_pure, Result.andThen_ok, run_under ht, hin, and_self, if_true, run_sizeOf hs, addr_add]
      · exact h4 _ _ hlt (by rw [← hsz]; exact hk)) c

theorem sl_index_str' {t : TypeId} {x i : Operand} {k : IntKind} {n : Int} {l : List UInt8} {u : UInt8} (hg : o.guard = none) (ho : o.op = .index t x i)
    (hx : evalO s x = .val (.str l)) (hn : evalO s i = .val (.int k n)) (ht : P.underlying t = some .string) (h0 : 0 ≤ n) (hu : l[n.toNat]? = some u)
    (c : SL P ops rest Q (sput s o.dst (.val (.int .u8 (u.toNat : Int)))) δ σ) : SL P ops (o :: rest) Q s δ σ := by
  obtain ⟨hlt, rfl⟩ := List.getElem?_eq_some_iff.mp hu
  exact sl_index_str hg ho hx hn ht h0 hlt c

/-- A datum of one cell. -/
def V.one : V → Bool
  | .agg _ => false
  | _ => true

theorem one_flat : ∀ (xs : List V), xs.all V.one = true → xs.flatMap V.cells = xs ∧ ∀ x ∈ xs, x.cells.length = 1
  | [], _ => ⟨rfl, fun _ h => absurd h (by simp)⟩
  | x :: xs, h => by
    simp only [List.all_cons, Bool.and_eq_true] at h
    obtain ⟨h1, h2⟩ := one_flat xs h.2
    have hx : x.cells = [x] := by cases x <;> first | rfl | simp [V.one] at h
    refine ⟨by rw [List.flatMap_cons, h1, hx]; rfl, fun y hy => ?_⟩
    rcases List.mem_cons.mp hy with rfl | hy
    · rw [hx]; rfl
    · exact h2 y hy

/-- A list written out, of data of one cell each. -/
theorem sl_buildSlice1 {t e : TypeId} {len : Nat} {parts : List (Nat × Operand)} {ds : List D} {xs : List V} (hg : o.guard = none) (ho : o.op = .buildSlice t len parts.toArray)
    (ht : P.underlying t = some (.slice e)) (hs : szOf P e = some 1) (hz : (zeroOf P e).isSome = true) (hlim : len * 1 ≤ 16777216)
    (hf : fillD (fun i => some (i * 1, 1)) (List.replicate (len * 1) .junk) (parts.map fun p => (p.1, evalO s p.2)) = some ds) (hx : toVs ds = some xs)
    (hl : xs.length = len) (hxs : xs.all V.one = true)
    (c : SL P ops rest Q (sput s o.dst (.fix xs)) δ σ) : SL P ops (o :: rest) Q s δ σ :=
  sl_buildSlice hg ho ht hs hz hlim hf (by rw [(one_flat xs hxs).1]; exact hx) hl (one_flat xs hxs).2 c

theorem sl_pick_t {cd x y : Operand} {b : Bool} (hg : o.guard = none) (ho : o.op = .pick cd x y) (hb : evalO s cd = .val (.bool b)) (h : b = true)
    (k : SL P ops rest Q (sput s o.dst (evalO s x)) δ σ) : SL P ops (o :: rest) Q s δ σ := sl_pick hg ho hb (by subst h; exact k)

theorem sl_pick_f {cd x y : Operand} {b : Bool} (hg : o.guard = none) (ho : o.op = .pick cd x y) (hb : evalO s cd = .val (.bool b)) (h : b = false)
    (k : SL P ops rest Q (sput s o.dst (evalO s y)) δ σ) : SL P ops (o :: rest) Q s δ σ := sl_pick hg ho hb (by subst h; exact k)

/-- An operation under a guard that holds. -/
theorem sl_guard_y {j : Nat} {want b : Bool} {t : Tmp} (hg : o.guard = some (j, want)) (hj : (ops[j]?).bind (·.dst) = some t) (hb : evalO s (.tmp t) = .val (.bool b)) (h : b = want)
    (hy : SL P ops ({ o with guard := none } :: rest) Q s δ σ) : SL P ops (o :: rest) Q s δ σ := sl_guard hg hj hb (fun _ => hy) (fun hn => absurd h hn)

/-- An operation under a guard that doesn't hold. -/
theorem sl_guard_n {j : Nat} {want b : Bool} {t : Tmp} (hg : o.guard = some (j, want)) (hj : (ops[j]?).bind (·.dst) = some t) (hb : evalO s (.tmp t) = .val (.bool b)) (h : b = !want)
    (hn : SL P ops rest Q (sput s o.dst (.tup [])) δ σ) : SL P ops (o :: rest) Q s δ σ := sl_guard hg hj hb (fun hy => by subst h; cases want <;> cases hy) (fun _ => hn)

theorem sl_case (b : Bool) (ht : b = true → SL P ops rest Q s δ σ) (hf : b = false → SL P ops rest Q s δ σ) : SL P ops rest Q s δ σ := by
  cases b
  · exact hf rfl
  · exact ht rfl

theorem sl_f1 {c x : Chunk} (h : SL P ops rest Q s δ (c :: x :: σ)) : SL P ops rest Q s δ (x :: c :: σ) := sl_perm (.swap _ _ _) h
theorem sl_f2 {c x y : Chunk} (h : SL P ops rest Q s δ (c :: x :: y :: σ)) : SL P ops rest Q s δ (x :: y :: c :: σ) := sl_less (Sub.p2 (Sub.refl _)) h
theorem sl_f3 {c x y z : Chunk} (h : SL P ops rest Q s δ (c :: x :: y :: z :: σ)) : SL P ops rest Q s δ (x :: y :: z :: c :: σ) := sl_less (Sub.p3 (Sub.refl _)) h
theorem sl_f4 {c x y z u : Chunk} (h : SL P ops rest Q s δ (c :: x :: y :: z :: u :: σ)) : SL P ops rest Q s δ (x :: y :: z :: u :: c :: σ) := sl_less (Sub.p4 (Sub.refl _)) h
theorem sl_f5 {c x y z u v : Chunk} (h : SL P ops rest Q s δ (c :: x :: y :: z :: u :: v :: σ)) : SL P ops rest Q s δ (x :: y :: z :: u :: v :: c :: σ) := sl_less (Sub.p5 (Sub.refl _)) h
theorem sl_f6 {c x y z u v v' : Chunk} (h : SL P ops rest Q s δ (c :: x :: y :: z :: u :: v :: v' :: σ)) : SL P ops rest Q s δ (x :: y :: z :: u :: v :: v' :: c :: σ) := sl_less (Sub.p6 (Sub.refl _)) h

theorem sw_true {cd : Operand} {x y : Code} {b : Bool} (hc : evalO s cd = .val (.bool b)) (h : b = true) (ht : SW P x Q s δ σ) : SW P (.cond cd x y) Q s δ σ := sw_cond hc (fun _ => ht) (fun hf => by subst h; cases hf)
theorem sw_false {cd : Operand} {x y : Code} {b : Bool} (hc : evalO s cd = .val (.bool b)) (h : b = false) (ht : SW P y Q s δ σ) : SW P (.cond cd x y) Q s δ σ := sw_cond hc (fun hf => by subst h; cases hf) (fun _ => ht)

/-- A new struct that is never written: a pointer to immutable memory at once. -/
theorem sl_box_imm {t : TypeId} {x : Operand} {xs : List V} (hg : o.guard = none) (ho : o.op = .box t x) (hk : (evalO s x).known = true) (hx : toVs (evalO s x).cells = some xs)
    (c : SL P ops rest Q (sput s o.dst (.rp xs)) δ σ) : SL P ops (o :: rest) Q s δ σ :=
  sl_op hg fun G a w hi hr => by
    have h := rep_cells (hr.eval x) hk
    have hi1 := hi.alloc (ty := t) h.1 h.2
    obtain ⟨hle, hi2⟩ := hi1.freeze (heap_new w _)
    obtain ⟨h4, h5⟩ := toVs_rep h.1 h.2 hx
    refine ⟨.pointer (some ⟨w.heap.size, 0, none⟩), w.alloc (.cells (a.eval x).cells t), G.freeze w.heap.size (a.eval x).cells, .rp xs, σ, ?_, hle, hi2, ?_, c⟩
    · simp only [execOp, ho, Instr.box, Sem.run_bind, Result.andThen_ok, newVar, newRow, run_newObj, Sem.run_pure]
      rfl
    · refine .rp _ 0 xs (fun k => (a.eval x).cells.getD k undef) (fun k hk => ?_) (fun k hk => (h5 k hk).mono hle.2)
      have hk' : k < (a.eval x).cells.size := by omega
      show (if w.heap.size = w.heap.size then (a.eval x).cells[0 + k]? else _) = _
      rw [if_pos rfl, Nat.zero_add, Array.getElem?_eq_getElem hk', Array.getD_eq_getD_getElem?, Array.getElem?_eq_getElem hk']; rfl

/-- A place in immutable memory, all of it, is a pointer to the datum. -/
theorem Weak.rp_agg (xs : List V) : Weak (.rp xs) (.val (.ref (.agg xs))) := by
  intro C v r
  cases r with
  | rp b f xs vs hC hv => exact .val _ _ (.ref b f (.agg xs) vs hC hv)

end rules
end Go.Proofs.Ytioechdfghglhaa.SL
