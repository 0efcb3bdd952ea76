/- Merged: the program logic, plain laws and walks (each part's first row says what it is); no conditions of its own. -/
import Derived.Test.YtlolmemiedhhhaaDoorL1
import GoSem.ClaimChange
import Derived.Laws.BytesString
import Derived.Laws.StructEq
import Derived.Laws.MakeOwn
import Derived.Laws.Externs
import Derived.Lib.Bytealg

/- The program logic, eighth part: slices, fields, results, functions, calls. -/
namespace Go.Proofs.YtlolmemiedhhhaaDoor.SL
set_option linter.unusedVariables false
set_option linter.unusedSimpArgs false
open Go Go.RowKit

section rules
variable {P : Program} {ops : Array Oper} {Q : Post} {s : Slots} {δ : Defs} {σ : List Chunk} {o : Oper} {rest : List Oper}

/-! ### Slices -/

theorem run_bound {P : Program} {w : World} {k : IntKind} {n : Int} {y : Nat} {code : BoundsCode} (h0 : 0 ≤ n) (h1 : n ≤ y) : (Instr.sliceBound (.int k n) y code).run P w = .ok n.toNat w := by
  unfold Instr.sliceBound
  simp only [asIntOf, Sem.run_bind, Sem.run_pure, Result.andThen_ok, h0, h1, and_self, if_true]

def lowIs (s : Slots) : Option Operand → Nat → Prop
  | none, m => m = 0
  | some z, m => ∃ k, evalO s z = .val (.int k m)

def highIs (s : Slots) (len : Nat) : Option Operand → Nat → Prop
  | none, m => m = len
  | some z, m => ∃ k, evalO s z = .val (.int k m)

theorem run_bounds {G : Gh} {a : Act} {w : World} (hr : RelA G s δ a) {isS : Bool} {len cap m n : Nat} {lo hi : Option Operand} (hlo : lowIs s lo m) (hhi : highIs s len hi n) (hmn : m ≤ n) (hn : n ≤ cap) :
    (Instr.sliceBounds isS len cap (lo.map a.eval) (hi.map a.eval) none).run P w = .ok (m, n, cap) w := by
  unfold Instr.sliceBounds
  cases hi with
  | none =>
    simp only [highIs] at hhi; subst hhi
    cases lo with
    | none => simp only [lowIs] at hlo; subst hlo; rfl
    | some z =>
      obtain ⟨k, hk⟩ := hlo
      have h2 := hr.eval z; rw [hk] at h2; have e2 := rep_int h2
      simp only [Option.map_some, Option.map_none, e2, Sem.run_bind, Sem.run_pure, Result.andThen_ok]
      rw [run_bound (by omega) (by omega)]; rfl
  | some y =>
    obtain ⟨k', hk'⟩ := hhi
    have h3 := hr.eval y; rw [hk'] at h3; have e3 := rep_int h3
    simp only [Option.map_some, e3, Sem.run_bind, Sem.run_pure, Result.andThen_ok]
    rw [run_bound (by omega) (by omega)]
    simp only [Result.andThen_ok, Int.toNat_natCast]
    cases lo with
    | none => simp only [lowIs] at hlo; subst hlo; rfl
    | some z =>
      obtain ⟨k, hk⟩ := hlo
      have h2 := hr.eval z; rw [hk] at h2; have e2 := rep_int h2
      simp only [Option.map_some, e2, Sem.run_bind]
      rw [run_bound (by omega) (by omega)]; rfl

/-- Part of a text. -/
theorem sl_slice_str {t : TypeId} {x : Operand} {lo hi : Option Operand} {l : List UInt8} (m n : Nat) (hg : o.guard = none) (ho : o.op = .slice t x lo hi none)
    (hx : evalO s x = .val (.str l)) (ht : P.underlying t = some .string) (hlo : lowIs s lo m) (hhi : highIs s l.length hi n)
    (hmn : m ≤ n) (hn : n ≤ l.length) (c : SL P ops rest Q (sput s o.dst (.val (.str ((l.drop m).take (n - m))))) δ σ) : SL P ops (o :: rest) Q s δ σ :=
  sl_pure hg (fun G a w hi' hr => by
    have h1 := hr.eval x; rw [hx] at h1; obtain ⟨t1, e1, rfl⟩ := rep_str h1
    have hsz : t1.size = t1.data.toList.length := rfl
    have hb := run_bounds (P := P) (w := w) hr (isS := false) (cap := t1.size) hlo hhi hmn (by omega)
    rw [← hsz] at hb
    refine ⟨.string (t1.extract m n), ?_, rep_bin ?_⟩
    · simp only [execOp, ho, e1, Instr.sliceAt, Instr.slice, Sem.run_bind, run_under ht, Result.andThen_ok, Option.map_none, Option.isSome_none, Bool.false_eq_true, if_false, hb, Sem.run_pure]
    · rw [← Lib.extract_data]; exact .str _) c

/-- Part of a list, as data. -/
theorem sub_list {C : Imm} {a : Option Addr} {n c : Nat} {xs : List V} {sz m h mx : Nat} (r : RepV C (.slice a n c) (.list xs)) (hsz : ∀ x ∈ xs, x.cells.length = sz) (hmh : m ≤ h) (hh : h ≤ xs.length) (hmx : h ≤ mx)
    (hc : mx ≤ c) : RepV C (.slice (if mx = m then a else a.map (·.add (m * sz))) (h - m) (mx - m)) (.list ((xs.drop m).take (h - m))) := by
  have hlen : ((xs.drop m).take (h - m)).length = h - m := by simp; omega
  cases r with
  | empty =>
    have h0 : h = 0 := by simpa using hh
    have m0 : m = 0 := by omega
    subst h0; subst m0
    simp only [Nat.sub_self, List.drop_nil, List.take_nil]
    exact .empty _ _
  | list b f c' sz' xs vs hc' h3 h4 h5 =>
    by_cases hd : h - m = 0
    · have hnil : (xs.drop m).take (h - m) = [] := by rw [hd]; rfl
      rw [hnil]
      have : ∃ f', (if mx = m then some (⟨b, f, none⟩ : Addr) else (some (⟨b, f, none⟩ : Addr)).map (·.add (m * sz))) = some ⟨b, f', none⟩ := by
        split
        · exact ⟨f, rfl⟩
        · exact ⟨f + m * sz, by rw [Option.map_some, addr_add]⟩
      obtain ⟨f', hf'⟩ := this
      rw [hf', hd]
      exact .list b f' (mx - m) 0 [] (fun _ _ => undef) (by simp) (fun i h => absurd h (by simp)) (fun i k h => absurd h (by simp)) (fun i k h => absurd h (by simp))
    · have hz : sz' = sz := by
        have h0 : 0 < xs.length := by omega
        rw [← h3 0 h0, hsz _ (List.getElem_mem h0)]
      subst hz
      rw [if_neg (by omega), Option.map_some, addr_add]
      have := RepV.list (C := C) b (f + m * sz') (mx - m) sz' ((xs.drop m).take (h - m)) (fun i k => vs (m + i) k) (by rw [hlen]; omega)
        (fun i hi => by simp only [List.getElem_take, List.getElem_drop]; exact h3 _ _)
        (fun i k hi hk => by
          rw [hlen] at hi
          have := h4 (m + i) k (by omega) hk
          rw [Nat.add_mul] at this
          rw [← this]; congr 1; omega)
        (fun i k hi hk => by
          simp only [List.getElem_take, List.getElem_drop] at hk ⊢
          exact h5 _ _ _ hk)
      rw [hlen] at this
      exact this

theorem sl_slice_list {t e : TypeId} {x : Operand} {lo hi : Option Operand} {xs : List V} {sz : Nat} (m n : Nat) (hg : o.guard = none) (ho : o.op = .slice t x lo hi none)
    (hx : (evalO s x).asList = some xs) (ht : P.underlying t = some (.slice e)) (hs : szOf P e = some sz) (hsz : ∀ x ∈ xs, x.cells.length = sz) (hlo : lowIs s lo m) (hhi : highIs s xs.length hi n)
    (hmn : m ≤ n) (hn : n ≤ xs.length) (c : SL P ops rest Q (sput s o.dst (.val (.list ((xs.drop m).take (n - m))))) δ σ) : SL P ops (o :: rest) Q s δ σ :=
  sl_pure hg (fun G a w hi' hr => by
    have r := asList_rep (hr.eval x) hx
    obtain ⟨ad, cp, hv, hcp⟩ := rep_list_len r
    rw [hv] at r
    have hb := run_bounds (P := P) (w := w) hr (isS := true) (cap := cp) hlo hhi hmn (by omega)
    refine ⟨_, ?_, rep_bin (sub_list r hsz hmn hn (by omega) (Nat.le_refl _))⟩
    simp only [execOp, ho, hv, Instr.sliceAt, Instr.slice, Sem.run_bind, run_under ht, Result.andThen_ok, Option.map_none, hb, run_sizeOf hs, Sem.run_pure]) c

/-- 'xs[:n:n]': a list without room. -/
theorem sl_slice_full {t e : TypeId} {x y z : Operand} {k k' : IntKind} {xs : List V} {sz : Nat} (n : Nat) (hg : o.guard = none) (ho : o.op = .slice t x none (some y) (some z))
    (hx : (evalO s x).asList = some xs) (ht : P.underlying t = some (.slice e)) (hs : szOf P e = some sz) (hsz : ∀ x ∈ xs, x.cells.length = sz) (hy : evalO s y = .val (.int k n)) (hz : evalO s z = .val (.int k' n))
    (hn : n ≤ xs.length) (c : SL P ops rest Q (sput s o.dst (.fix (xs.take n))) δ σ) : SL P ops (o :: rest) Q s δ σ :=
  sl_pure hg (fun G a w hi' hr => by
    have r := asList_rep (hr.eval x) hx
    obtain ⟨ad, cp, hv, hcp⟩ := rep_list_len r
    rw [hv] at r
    have h2 := hr.eval y; rw [hy] at h2; have e2 := rep_int h2
    have h3 := hr.eval z; rw [hz] at h3; have e3 := rep_int h3
    have r2 := sub_list (m := 0) (h := n) (mx := n) r hsz (Nat.zero_le _) hn (Nat.le_refl _) (by omega)
    simp only [Nat.sub_zero, List.drop_zero] at r2
    have hl : (xs.take n).length = n := by simp; omega
    refine ⟨.slice (if n = 0 then ad else ad.map (·.add (0 * sz))) n n, ?_, ?_⟩
    · have hb : (Instr.sliceBounds true xs.length cp none (some (a.eval y)) (some (a.eval z))).run P w = .ok (0, n, n) w := by
        unfold Instr.sliceBounds
        simp only [e2, e3, Sem.run_bind, if_true]
        rw [run_bound (by omega) (by omega)]
        simp only [Result.andThen_ok, Int.toNat_natCast]
        rw [run_bound (by omega) (by omega)]
        simp only [Result.andThen_ok, Int.toNat_natCast, Sem.run_pure]
      simp only [execOp, ho, hv, Instr.sliceAt, Instr.slice, Sem.run_bind, run_under ht, Result.andThen_ok, Option.map_none, Option.map_some, hb, run_sizeOf hs, Sem.run_pure, Nat.sub_zero]
    · have := RepD.fix (C := G.C) (if n = 0 then ad else ad.map (·.add (0 * sz))) (xs.take n) (by rw [hl]; exact r2)
      rw [hl] at this; exact this) c

/-! ### Fields of a value, results of a call -/

theorem sl_field0 {t : TypeId} {x : Operand} {i sz : Nat} {fs : Array Field} {ds : List D} {f : Field} {b : Bool} (hg : o.guard = none) (ho : o.op = .field t x i) (hx : Weak (evalO s x) (.agg ds))
    (ht : P.underlying t = some (.struct fs)) (hf : fs[i]? = some f) (ha : aggOf P f.type = some b) (hs : szOf P f.type = some sz) (hle : f.offset + sz ≤ ds.length) (h1 : b = false → sz = 1)
    (c : SL P ops rest Q (sput s o.dst (if b then .agg ((ds.drop f.offset).take sz) else ds[f.offset]?.getD .junk)) δ σ) : SL P ops (o :: rest) Q s δ σ :=
  sl_pure hg (fun G a w hi hr => by
    have h1' := hx _ _ (hr.eval x)
    generalize hv : a.eval x = v at h1'
    cases h1' with
    | agg vs ds hsz hrep =>
      cases b with
      | true =>
        refine ⟨.agg (vs.extract f.offset (f.offset + sz)), ?_, ?_⟩
        · simp only [execOp, ho, hv, Instr.field, Sem.run_bind, run_under ht, Result.andThen_ok, hf, asAgg, Sem.run_pure, part, run_isAgg ha, if_true, run_sizeOf hs]
        · simp only [if_true]
          refine .agg _ _ (by simp; omega) (fun k hk => ?_)
          have hk' : k < sz := by simp at hk; omega
          rw [List.getElem_take, List.getElem_drop]
          have := hrep (f.offset + k) (by omega)
          have hlt : k < (vs.extract f.offset (f.offset + sz)).size := by simp; omega
          simp only [Array.getD_eq_getD_getElem?, Array.getElem?_eq_getElem hlt, Option.getD_some, Array.getElem_extract]
          have hlt2 : f.offset + k < vs.size := by omega
          simpa only [Array.getD_eq_getD_getElem?, Array.getElem?_eq_getElem hlt2, Option.getD_some] using this
      | false =>
        have := h1 rfl
        have hlt : f.offset < ds.length := by omega
        have hlt2 : f.offset < vs.size := by omega
        refine ⟨vs[f.offset], ?_, ?_⟩
        · simp only [execOp, ho, hv, Instr.field, Sem.run_bind, run_under ht, Result.andThen_ok, hf, asAgg, Sem.run_pure, part, run_isAgg ha, Bool.false_eq_true, if_false, Array.getElem?_eq_getElem hlt2]
        · simp only [Bool.false_eq_true, if_false, List.getElem?_eq_getElem hlt, Option.getD_some]
          have := hrep f.offset hlt
          simpa only [Array.getD_eq_getD_getElem?, Array.getElem?_eq_getElem hlt2, Option.getD_some] using this) c

/-- A field of a value: is it a struct, where it lies, how many cells it has. -/
def fieldInfo (P : Program) (t : TypeId) (i : Nat) : Option (Bool × Nat × Nat) :=
  match P.underlying t with
  | some (.struct fs) => match fs[i]? with
    | some f => match aggOf P f.type, szOf P f.type with
      | some b, some n => some (b, f.offset, n)
      | _, _ => none
    | none => none
  | _ => none

theorem sl_field {t : TypeId} {x : Operand} {i off sz : Nat} {ds : List D} {b : Bool} (hg : o.guard = none) (ho : o.op = .field t x i) (hx : Weak (evalO s x) (.agg ds))
    (hf : fieldInfo P t i = some (b, off, sz)) (hle : off + sz ≤ ds.length) (h1 : b = false → sz = 1)
    (c : SL P ops rest Q (sput s o.dst (if b then .agg ((ds.drop off).take sz) else ds[off]?.getD .junk)) δ σ) : SL P ops (o :: rest) Q s δ σ := by
  unfold fieldInfo at hf
  split at hf
  · rename_i fs ht
    split at hf
    · rename_i f hfs
      split at hf
      · rename_i b' n' ha hs
        simp only [Option.some.injEq, Prod.mk.injEq] at hf
        obtain ⟨rfl, rfl, rfl⟩ := hf
        exact sl_field0 hg ho hx ht hfs ha hs hle h1 c
      · cases hf
    · cases hf
  · cases hf

theorem sl_extract {x : Operand} {i : Nat} {ds : List D} {d : D} (hg : o.guard = none) (ho : o.op = .extract x i) (hx : evalO s x = .tup ds) (hd : ds[i]? = some d)
    (c : SL P ops rest Q (sput s o.dst d) δ σ) : SL P ops (o :: rest) Q s δ σ :=
  sl_pure hg (fun G a w hi hr => by
    have h1 := hr.eval x; rw [hx] at h1
    generalize hv : a.eval x = v at h1
    obtain ⟨hlt, rfl⟩ := List.getElem?_eq_some_iff.mp hd
    cases h1 with
    | tup vs ds hsz hrep =>
      have hlt2 : i < vs.size := by omega
      refine ⟨vs[i], ?_, ?_⟩
      · simp only [execOp, ho, hv, Instr.extract, Array.getElem?_eq_getElem hlt2, Sem.run_bind, Sem.run_pure, Result.andThen_ok]
      · have := hrep i hlt
        simpa only [Array.getD_eq_getD_getElem?, Array.getElem?_eq_getElem hlt2, Option.getD_some] using this) c

/-! ### Functions, interface values -/

theorem repDs_map {G : Gh} {a : Act} (hr : RelA G s δ a) (l : List Operand) : RepDs G.C (l.toArray.map a.eval) (l.map (evalO s)) := by
  refine ⟨by simp, fun k hk => ?_⟩
  have hk' : k < l.length := by simpa using hk
  simp only [List.map_toArray, List.getElem_map, Array.getD_eq_getD_getElem?, List.getElem?_toArray, List.getElem?_map, List.getElem?_eq_getElem hk', Option.map_some, Option.getD_some]
  exact hr.eval _

theorem sl_makeFunc {f : FuncId} {l : List Operand} (hg : o.guard = none) (ho : o.op = .makeFunc (.func f) #[] l.toArray)
    (c : SL P ops rest Q (sput s o.dst (.func f (l.map (evalO s)))) δ σ) : SL P ops (o :: rest) Q s δ σ :=
  sl_pure hg (fun G a w hi hr => by
    obtain ⟨h1, h2⟩ := repDs_map hr l
    exact ⟨.func (.func f) #[] (l.toArray.map a.eval), by simp only [execOp, ho, Instr.makeFunc, Sem.run_bind, Sem.run_pure, Result.andThen_ok, List.map_toArray, List.map_nil], .func f _ _ h1 h2⟩) c

def ifaceOf : TypeId → D → D
  | t, .val x => .val (.iface t x)
  | t, d => .iface t d

theorem sl_makeInterface {t : TypeId} {x : Operand} {d : TypeDesc} (hg : o.guard = none) (ho : o.op = .makeInterface t x) (ht : P.underlying t = some d) (hd : ∀ ms, d ≠ .interface ms)
    (c : SL P ops rest Q (sput s o.dst (ifaceOf t (evalO s x))) δ σ) : SL P ops (o :: rest) Q s δ σ :=
  sl_pure hg (fun G a w hi hr => by
    refine ⟨.iface t (a.eval x), ?_, ?_⟩
    · simp only [execOp, ho, Instr.makeInterface, Sem.run_bind, run_under ht, Result.andThen_ok]
      cases d <;> first | rfl | exact absurd rfl (hd _)
    · have h1 := hr.eval x
      generalize a.eval x = vx at h1
      generalize evalO s x = dd at h1
      cases dd with
      | val y => cases h1 with | val _ _ h => exact .val _ _ (.iface t _ _ h)
      | _ => exact .iface t _ _ h1) c

/-! ### Calls -/

theorem enter_of {P : Program} {f : FuncId} {fn : Func} {c : Code} {args : Array Value} {w : World} (hf : P.funcs[f]? = some fn) (hb : fn.body = some c) (hn : (fn.name == "runtime.NumGoroutine") = false) :
    (callFunc f args).run P w = .ok (.enter f args) w := by
  unfold callFunc
  simp only [Sem.run_bind, run_program, Result.andThen_ok, hf, hn, hb, Bool.false_eq_true, if_false, Option.isNone_some, Sem.run_pure]

/-- What a call of a function needs of the program: it is there, and it has a body. -/
def callable (P : Program) (f : FuncId) : Bool :=
  match P.funcs[f]? with
  | some fn => fn.body.isSome && !(fn.name == "runtime.NumGoroutine")
  | none => false

theorem callable_run {P : Program} {f : FuncId} {args : Array Value} {w : World} (h : callable P f = true) : (callFunc f args).run P w = .ok (.enter f args) w := by
  unfold callable at h
  split at h
  · rename_i fn hf
    simp only [Bool.and_eq_true, Bool.not_eq_true'] at h
    obtain ⟨c, hc⟩ := Option.isSome_iff_exists.mp h.1
    exact enter_of hf hc h.2
  · cases h

theorem repDs_append {C : Imm} {vs us : Array Value} {ds es : List D} (h : RepDs C vs ds) (h' : RepDs C us es) : RepDs C (vs ++ us) (ds ++ es) := by
  refine ⟨by simp [h.1, h'.1], fun k hk => ?_⟩
  by_cases hlt : k < ds.length
  · have hlt2 : k < vs.size := by rw [h.1]; exact hlt
    rw [List.getElem_append_left hlt]
    have := h.2 k hlt
    simp only [Array.getD_eq_getD_getElem?] at this ⊢
    rw [Array.getElem?_append_left hlt2]; exact this
  · have hlt2 : vs.size ≤ k := by rw [h.1]; omega
    rw [List.getElem_append_right (by omega)]
    have := h'.2 (k - ds.length) (by simp at hk; omega)
    simp only [Array.getD_eq_getD_getElem?] at this ⊢
    rw [Array.getElem?_append_right hlt2, h.1]; exact this

/-- A call by a contract: of a function named, or of a function value; the arguments may be weakened first. -/
theorem sl_call {x : Operand} {l : List Operand} {at' : Array TypeId} {f : FuncId} {caps ds : List D} {R : D → List Chunk → Prop} {Rp : List PanicEntry → List Chunk → Prop} (hg : o.guard = none)
    (ho : o.op = .call { callee := .value x, args := l.toArray, argTypes := at' }) (hx : evalO s x = .func f caps) (hc : callable P f = true)
    (hw : Weaks (l.map (evalO s) ++ caps) ds) (hs : FSpecP P f ds σ R Rp)
    (k : ∀ d σ', R d σ' → SL P ops rest Q (sput s o.dst d) δ σ') (kp : ∀ ch σ', Rp ch σ' → Q (.panic ch) s δ σ') : SL P ops (o :: rest) Q s δ σ := fun G a w hi hr => by
  refine wpList_plain hg fun K hK => ?_
  have h1 := hr.eval x; rw [hx] at h1
  generalize hv : a.eval x = v at h1
  cases h1 with
  | func f vs ds' hsz hrep =>
    have hargs : RepDs G.C (l.toArray.map a.eval ++ vs) ds := (repDs_append (repDs_map hr l) ⟨hsz, hrep⟩).weak hw
    unfold Oper.wp
    have hrun : (execOp a.eval o).run P w = .ok (.enter f (l.toArray.map a.eval ++ vs)) w := by
      simp only [execOp, ho, resolve, hv, Deferred.ofValue, Sem.run_bind, Sem.run_pure, Result.andThen_ok, invoke, Array.empty_append, callable_run hc]
    rw [hrun, Oper.upon_enter]
    refine (hs G _ w hi hargs).mono fun e w' he => ?_
    cases e with
    | returned v =>
      obtain ⟨G', d, σ', g1, g2, g3, g4⟩ := he
      exact hK _ _ ((k d σ' g4).use g1 g2 ((hr.mono g1).put o.dst g3))
    | panicked ch =>
      obtain ⟨G', σ', g1, g2, g3⟩ := he
      exact ⟨G', s, δ, σ', g1, g2, hr.mono g1, kp _ _ g3⟩
    | outgrown => exact he.elim

theorem sl_less {σ' : List Chunk} (hp : Sub σ' σ) (h : SL P ops rest Q s δ σ') : SL P ops rest Q s δ σ := fun G a w hi hr => h G a w (hi.less hp) hr

/-- A call of a function named. -/
theorem sl_callf {l : List Operand} {at' : Array TypeId} {f : FuncId} {ds : List D} {σ' : List Chunk} {R : D → List Chunk → Prop} {Rp : List PanicEntry → List Chunk → Prop} (hg : o.guard = none)
    (ho : o.op = .call { callee := .value (.func f), args := l.toArray, argTypes := at' }) (hc : callable P f = true)
    (hs : FSpecP P f ds σ' R Rp) (hw : Weaks (l.map (evalO s)) ds) (hp : Sub σ' σ)
    (k : ∀ d σ', R d σ' → SL P ops rest Q (sput s o.dst d) δ σ') (kp : ∀ ch σ', Rp ch σ' → Q (.panic ch) s δ σ') : SL P ops (o :: rest) Q s δ σ :=
  sl_less hp (sl_call hg ho (x := .func f) (caps := []) rfl hc (by rw [List.append_nil]; exact hw) hs k kp)

/-! ### Nil -/

theorem run_eql_ptr_nil {P : Program} {w : World} {t e : TypeId} (ht : P.underlying t = some (.pointer e)) (a : Option Addr) : (binOp .eql t (.pointer a) (.pointer none)).run P w = .ok (.bool a.isNone) w ∧
    (binOp .neq t (.pointer a) (.pointer none)).run P w = .ok (.bool a.isSome) w := by
  have h' : ∀ d, (Op.equalIn (d + 1) t (.pointer a) (.pointer none)).run P w = .ok a.isNone w := fun d => by
    cases a <;> simp only [Op.equalIn, Sem.run_bind, run_under ht, Result.andThen_ok, Sem.run_pure] <;> rfl
  have h : (Op.equal t (.pointer a) (.pointer none)).run P w = .ok a.isNone w := h' 9999
  constructor
  · simp only [binOp, Sem.run_bind, h, Result.andThen_ok, Sem.run_pure]
  · simp only [binOp, Sem.run_bind, h, Result.andThen_ok, Sem.run_pure]
    cases a <;> rfl

/-- A pointer: nil, or not. -/
def D.isNil : D → Option Bool
  | .val .nil => some true
  | .ptr _ _ | .rp _ | .val (.ref _) => some false
  | _ => none

theorem isNil_rep {C : Imm} {v : Value} {d : D} {b : Bool} (r : RepD C v d) (h : d.isNil = some b) : ∃ a, v = .pointer a ∧ a.isNone = b := by
  cases r with
  | ptr b' f => simp only [D.isNil, Option.some.injEq] at h; subst h; exact ⟨_, rfl, rfl⟩
  | rp b' f xs vs _ _ => simp only [D.isNil, Option.some.injEq] at h; subst h; exact ⟨_, rfl, rfl⟩
  | val _ x hx =>
    cases hx <;> simp only [D.isNil, Option.some.injEq, reduceCtorEq] at h <;> subst h
    · exact ⟨_, rfl, rfl⟩
    · exact ⟨_, rfl, rfl⟩
  | _ => simp [D.isNil] at h

theorem run_guard_ptr (P : Program) (w : World) (op : BinOp) (t : TypeId) (x y : Operand) (m n : Option Addr) : (eqGuard op t x y (.pointer m) (.pointer n)).run P w = .ok () w := by
  unfold eqGuard
  cases op <;> rfl

theorem sl_eq_nil {t t' e : TypeId} {x : Operand} {b : Bool} (hg : o.guard = none) (ho : o.op = .binOp .eql t x (.const (.pointer none)) t') (hx : (evalO s x).isNil = some b)
    (ht : P.underlying t = some (.pointer e)) (c : SL P ops rest Q (sput s o.dst (.val (.bool b))) δ σ) : SL P ops (o :: rest) Q s δ σ :=
  sl_pure hg (fun G a w hi hr => by
    obtain ⟨ad, h1, h2⟩ := isNil_rep (hr.eval x) hx
    refine ⟨_, run_execBin ho (by rw [h1]; exact run_guard_ptr ..) (by rw [h1]; exact (run_eql_ptr_nil ht ad).1), rep_bin (by rw [h2]; exact .bool _)⟩) c

theorem sl_ne_nil {t t' e : TypeId} {x : Operand} {b : Bool} (hg : o.guard = none) (ho : o.op = .binOp .neq t x (.const (.pointer none)) t') (hx : (evalO s x).isNil = some b)
    (ht : P.underlying t = some (.pointer e)) (c : SL P ops rest Q (sput s o.dst (.val (.bool (!b)))) δ σ) : SL P ops (o :: rest) Q s δ σ :=
  sl_pure hg (fun G a w hi hr => by
    obtain ⟨ad, h1, h2⟩ := isNil_rep (hr.eval x) hx
    have h3 : ad.isSome = !b := by rw [← h2]; cases ad <;> rfl
    refine ⟨_, run_execBin ho (by rw [h1]; exact run_guard_ptr ..) (by rw [h1]; exact (run_eql_ptr_nil ht ad).2), rep_bin (by rw [h3]; exact .bool _)⟩) c

theorem run_guard_slice (P : Program) (w : World) (op : BinOp) (t : TypeId) (x y : Operand) (m n : Option Addr) (i j k l : Nat) : (eqGuard op t x y (.slice m i j) (.slice n k l)).run P w = .ok () w := by
  unfold eqGuard
  cases op <;> rfl

theorem run_eql_slice_nil' {P : Program} {w : World} {t e : TypeId} (ht : P.underlying t = some (.slice e)) (a : Option Addr) (i j : Nat) : (binOp .eql t (.slice a i j) (.slice none 0 0)).run P w = .ok (.bool a.isNone) w := by
  have h' : ∀ d, (Op.equalIn (d + 1) t (.slice a i j) (.slice none 0 0)).run P w = .ok a.isNone w := fun d => by
    cases a <;> simp only [Op.equalIn, Sem.run_bind, run_under ht, Result.andThen_ok, Sem.run_pure] <;> rfl
  have h : (Op.equal t (.slice a i j) (.slice none 0 0)).run P w = .ok a.isNone w := h' 9999
  simp only [binOp, Sem.run_bind, h, Result.andThen_ok, Sem.run_pure]

/-- A list held against nil: only an empty list may be nil. -/
theorem sl_list_nil {t t' e : TypeId} {x : Operand} {xs : List V} (hg : o.guard = none) (ho : o.op = .binOp .eql t x (.const (.slice none 0 0)) t') (hx : (evalO s x).asList = some xs)
    (ht : P.underlying t = some (.slice e)) (c : ∀ b : Bool, (b = true → xs = []) → SL P ops rest Q (sput s o.dst (.val (.bool b))) δ σ) : SL P ops (o :: rest) Q s δ σ :=
  sl_op hg fun G a w hi hr => by
    have r := asList_rep (hr.eval x) hx
    obtain ⟨ad, cp, h1, h2⟩ := rep_list_len r
    rw [h1] at r
    refine ⟨_, w, G, _, σ, run_execBin ho (by rw [h1]; exact run_guard_slice ..) (by rw [h1]; exact run_eql_slice_nil' ht ad _ _), G.le_refl, hi, rep_bin (.bool ad.isNone), c _ (fun hn => ?_)⟩
    cases ad with
    | none => generalize hl : xs.length = n at r; cases r with | empty => rfl
    | some a => cases hn

/-! ### From 'fix' to 'own', in a block -/

theorem sl_own_blk {b i sz : Nat} {ds : List D} {xs : List V} (hd : ds[i]? = some (.fix xs)) (c : ∀ v, SL P ops rest Q s δ (.blk b (ds.set i (.own v xs)) :: .spare v sz :: σ)) : SL P ops rest Q s δ (.blk b ds :: σ) := fun G a w hi hr => by
  obtain ⟨cs, ty, fz, h, h1, h2, h3⟩ := hi.holds _ (List.mem_cons_self ..)
  obtain ⟨hlt, hde⟩ := List.getElem?_eq_some_iff.mp hd
  have hv := h3 i hlt
  rw [hde] at hv
  generalize hval : cs.getD i undef = v at hv
  cases hv with
  | fix ad xs hr' =>
    have hi' : Inv G (.spare (.slice ad xs.length xs.length) sz :: .blk b ds :: σ) w := hi.add ⟨ad, _, _, rfl, .inl rfl⟩ (fun b e => by cases ad <;> simp [Chunk.b?] at e) (fun b o e => by cases ad <;> simp [Chunk.owns] at e) (fun b e => by cases ad <;> simp [Chunk.b?] at e)
    have hi2 := hi'.perm (List.Perm.swap ..)
    refine c (.slice ad xs.length xs.length) G a w (hi2.change (b := b) rfl (fun x e => by simpa [Chunk.b?] using e.symm) G.le_refl (fun x o v hv => .inl hv) rfl rfl rfl rfl (fun _ _ => rfl)
      (fun o v hv => hi.agree b o v hv) ⟨cs, ty, fz, h, h1, by simpa using h2, fun k hk => ?_⟩ (fun x o e => hi.apart (.blk b ds) (List.mem_cons_self ..) x o e) (fun t0 c0 f0 h0 => ⟨c0, f0, h0, rfl⟩)) hr
    by_cases e : i = k
    · subst e; rw [List.getElem_set_self, hval]; exact .own _ _ hr'
    · rw [List.getElem_set_ne e]; exact h3 k (by simpa using hk)

/-! ### Short forms for the printer -/

theorem idx_map {α : Type} {l : List α} {f : α → V} {k : Nat} (h : k < l.length) : (l.map f)[((k : Int)).toNat]? = some (f (l[k])) := by
  rw [Int.toNat_natCast, List.getElem?_map, List.getElem?_eq_getElem h]; rfl

theorem idx_get {α : Type} {l : List α} {k : Nat} (h : k < l.length) : l[((k : Int)).toNat]? = some (l[k]) := by
  rw [Int.toNat_natCast, List.getElem?_eq_getElem h]

theorem sl_indexAddr' {t e : TypeId} {x i : Operand} {k : IntKind} {n : Int} {xs : List V} {y : V} {sz : Nat} (hg : o.guard = none) (ho : o.op = .indexAddr t x i)
    (hx : (evalO s x).asList = some xs) (hn : evalO s i = .val (.int k n)) (ht : P.underlying t = some (.slice e)) (hs : szOf P e = some sz)
    (h0 : 0 ≤ n) (hy : xs[n.toNat]? = some y) (hsz : y.cells.length = sz) (c : SL P ops rest Q (sput s o.dst (.rp y.cells)) δ σ) : SL P ops (o :: rest) Q s δ σ :=
  sl_pure hg (fun G a w hi hr => by
    have h1 := asList_rep (hr.eval x) hx
    have h2 := hr.eval i; rw [hn] at h2; have e2 := rep_int h2
    obtain ⟨hlt, rfl⟩ := List.getElem?_eq_some_iff.mp hy
    generalize hv : a.eval x = v at h1
    cases h1 with
    | empty => simp at hlt
    | list b f cp sz' xs vs h1 h3 h4 h5 =>
      have hz : sz' = sz := by rw [← h3 _ hlt, hsz]
      subst hz
      refine ⟨.pointer (some ⟨b, f + n.toNat * sz', none⟩), ?_, .rp _ _ _ (vs n.toNat) (fun k hk => ?_) (fun k hk => h5 _ _ hlt hk)⟩
      · have hin : 0 ≤ n ∧ n < (xs.length : Int) := ⟨h0, by omega⟩
        simp only [execOp, ho, hv, e2, Instr.indexAt, asIntOf, Sem.run_bind, Sem.run_pure, Result.andThen_ok, run_under ht, hin, and_self, if_true, run_sizeOf hs, addr_add]
      · exact h4 _ _ hlt (by rw [← hsz]; exact hk)) c

theorem sl_index_str' {t : TypeId} {x i : Operand} {k : IntKind} {n : Int} {l : List UInt8} {u : UInt8} (hg : o.guard = none) (ho : o.op = .index t x i)
    (hx : evalO s x = .val (.str l)) (hn : evalO s i = .val (.int k n)) (ht : P.underlying t = some .string) (h0 : 0 ≤ n) (hu : l[n.toNat]? = some u)
    (c : SL P ops rest Q (sput s o.dst (.val (.int .u8 (u.toNat : Int)))) δ σ) : SL P ops (o :: rest) Q s δ σ := by
  obtain ⟨hlt, rfl⟩ := List.getElem?_eq_some_iff.mp hu
  exact sl_index_str hg ho hx hn ht h0 hlt c

/-- A datum of one cell. -/
def V.one : V → Bool
  | .agg _ => false
  | _ => true

theorem one_flat : ∀ (xs : List V), xs.all V.one = true → xs.flatMap V.cells = xs ∧ ∀ x ∈ xs, x.cells.length = 1
  | [], _ => ⟨rfl, fun _ h => absurd h (by simp)⟩
  | x :: xs, h => by
    simp only [List.all_cons, Bool.and_eq_true] at h
    obtain ⟨h1, h2⟩ := one_flat xs h.2
    have hx : x.cells = [x] := by cases x <;> first | rfl | simp [V.one] at h
    refine ⟨by rw [List.flatMap_cons, h1, hx]; rfl, fun y hy => ?_⟩
    rcases List.mem_cons.mp hy with rfl | hy
    · rw [hx]; rfl
    · exact h2 y hy

/-- A list written out, of data of one cell each. -/
theorem sl_buildSlice1 {t e : TypeId} {len : Nat} {parts : List (Nat × Operand)} {ds : List D} {xs : List V} (hg : o.guard = none) (ho : o.op = .buildSlice t len parts.toArray)
    (ht : P.underlying t = some (.slice e)) (hs : szOf P e = some 1) (hz : (zeroOf P e).isSome = true) (hlim : len * 1 ≤ 16777216)
    (hf : fillD (fun i => some (i * 1, 1)) (List.replicate (len * 1) .junk) (parts.map fun p => (p.1, evalO s p.2)) = some ds) (hx : toVs ds = some xs)
    (hl : xs.length = len) (hxs : xs.all V.one = true)
    (c : SL P ops rest Q (sput s o.dst (.fix xs)) δ σ) : SL P ops (o :: rest) Q s δ σ :=
  sl_buildSlice hg ho ht hs hz hlim hf (by rw [(one_flat xs hxs).1]; exact hx) hl (one_flat xs hxs).2 c

theorem sl_pick_t {cd x y : Operand} {b : Bool} (hg : o.guard = none) (ho : o.op = .pick cd x y) (hb : evalO s cd = .val (.bool b)) (h : b = true)
    (k : SL P ops rest Q (sput s o.dst (evalO s x)) δ σ) : SL P ops (o :: rest) Q s δ σ := sl_pick hg ho hb (by subst h; exact k)

theorem sl_pick_f {cd x y : Operand} {b : Bool} (hg : o.guard = none) (ho : o.op = .pick cd x y) (hb : evalO s cd = .val (.bool b)) (h : b = false)
    (k : SL P ops rest Q (sput s o.dst (evalO s y)) δ σ) : SL P ops (o :: rest) Q s δ σ := sl_pick hg ho hb (by subst h; exact k)

/-- An operation under a guard that holds. -/
theorem sl_guard_y {j : Nat} {want b : Bool} {t : Tmp} (hg : o.guard = some (j, want)) (hj : (ops[j]?).bind (·.dst) = some t) (hb : evalO s (.tmp t) = .val (.bool b)) (h : b = want)
    (hy : SL P ops ({ o with guard := none } :: rest) Q s δ σ) : SL P ops (o :: rest) Q s δ σ := sl_guard hg hj hb (fun _ => hy) (fun hn => absurd h hn)

/-- An operation under a guard that doesn't hold. -/
theorem sl_guard_n {j : Nat} {want b : Bool} {t : Tmp} (hg : o.guard = some (j, want)) (hj : (ops[j]?).bind (·.dst) = some t) (hb : evalO s (.tmp t) = .val (.bool b)) (h : b = !want)
    (hn : SL P ops rest Q (sput s o.dst (.tup [])) δ σ) : SL P ops (o :: rest) Q s δ σ := sl_guard hg hj hb (fun hy => by subst h; cases want <;> cases hy) (fun _ => hn)

theorem sl_case (b : Bool) (ht : b = true → SL P ops rest Q s δ σ) (hf : b = false → SL P ops rest Q s δ σ) : SL P ops rest Q s δ σ := by
  cases b
  · exact hf rfl
  · exact ht rfl

theorem sl_f1 {c x : Chunk} (h : SL P ops rest Q s δ (c :: x :: σ)) : SL P ops rest Q s δ (x :: c :: σ) := sl_perm (.swap _ _ _) h
theorem sl_f2 {c x y : Chunk} (h : SL P ops rest Q s δ (c :: x :: y :: σ)) : SL P ops rest Q s δ (x :: y :: c :: σ) := sl_less (Sub.p2 (Sub.refl _)) h
theorem sl_f3 {c x y z : Chunk} (h : SL P ops rest Q s δ (c :: x :: y :: z :: σ)) : SL P ops rest Q s δ (x :: y :: z :: c :: σ) := sl_less (Sub.p3 (Sub.refl _)) h
theorem sl_f4 {c x y z u : Chunk} (h : SL P ops rest Q s δ (c :: x :: y :: z :: u :: σ)) : SL P ops rest Q s δ (x :: y :: z :: u :: c :: σ) := sl_less (Sub.p4 (Sub.refl _)) h
theorem sl_f5 {c x y z u v : Chunk} (h : SL P ops rest Q s δ (c :: x :: y :: z :: u :: v :: σ)) : SL P ops rest Q s δ (x :: y :: z :: u :: v :: c :: σ) := sl_less (Sub.p5 (Sub.refl _)) h
theorem sl_f6 {c x y z u v v' : Chunk} (h : SL P ops rest Q s δ (c :: x :: y :: z :: u :: v :: v' :: σ)) : SL P ops rest Q s δ (x :: y :: z :: u :: v :: v' :: c :: σ) := sl_less (Sub.p6 (Sub.refl _)) h

theorem sw_true {cd : Operand} {x y : Code} {b : Bool} (hc : evalO s cd = .val (.bool b)) (h : b = true) (ht : SW P x Q s δ σ) : SW P (.cond cd x y) Q s δ σ := sw_cond hc (fun _ => ht) (fun hf => by subst h; cases hf)
theorem sw_false {cd : Operand} {x y : Code} {b : Bool} (hc : evalO s cd = .val (.bool b)) (h : b = false) (ht : SW P y Q s δ σ) : SW P (.cond cd x y) Q s δ σ := sw_cond hc (fun hf => by subst h; cases hf) (fun _ => ht)

/-- A new struct that is never written: a pointer to immutable memory at once. -/
theorem sl_box_imm {t : TypeId} {x : Operand} {xs : List V} (hg : o.guard = none) (ho : o.op = .box t x) (hk : (evalO s x).known = true) (hx : toVs (evalO s x).cells = some xs)
    (c : SL P ops rest Q (sput s o.dst (.rp xs)) δ σ) : SL P ops (o :: rest) Q s δ σ :=
  sl_op hg fun G a w hi hr => by
    have h := rep_cells (hr.eval x) hk
    have hi1 := hi.alloc (ty := t) h.1 h.2
    obtain ⟨hle, hi2⟩ := hi1.freeze (heap_new w _)
    obtain ⟨h4, h5⟩ := toVs_rep h.1 h.2 hx
    refine ⟨.pointer (some ⟨w.heap.size, 0, none⟩), w.alloc (.cells (a.eval x).cells t), G.freeze w.heap.size (a.eval x).cells, .rp xs, σ, ?_, hle, hi2, ?_, c⟩
    · simp only [execOp, ho, Instr.box, Sem.run_bind, Result.andThen_ok, newVar, newRow, run_newObj, Sem.run_pure]
      rfl
    · refine .rp _ 0 xs (fun k => (a.eval x).cells.getD k undef) (fun k hk => ?_) (fun k hk => (h5 k hk).mono hle.2)
      have hk' : k < (a.eval x).cells.size := by omega
      show (if w.heap.size = w.heap.size then (a.eval x).cells[0 + k]? else _) = _
      rw [if_pos rfl, Nat.zero_add, Array.getElem?_eq_getElem hk', Array.getD_eq_getD_getElem?, Array.getElem?_eq_getElem hk']; rfl

/-- Any of those that are owned comes first. -/
theorem sl_front {c : Chunk} {σ' : List Chunk} (p : Pick c σ σ') (h : SL P ops rest Q s δ (c :: σ')) : SL P ops rest Q s δ σ := fun G a w hi hr => h G a w (hi.pick p) hr

end rules
end Go.Proofs.YtlolmemiedhhhaaDoor.SL

/- The program logic, ninth part: regions that draw their order. -/
namespace Go.Proofs.YtlolmemiedhhhaaDoor.SL
set_option linter.unusedVariables false
set_option linter.unusedSimpArgs false
open Go Go.RowKit

/-- Cells of owned blocks that are to stay what they are through a region. -/
abbrev Exacts := List (Nat × Nat × Value)

def Kept (C : Imm) (K : Exacts) (w : World) : Prop := (∀ b o v, C b o = some v → w.cell? ⟨b, o, none⟩ = some v) ∧ ∀ x ∈ K, w.cell? ⟨x.1, x.2.1, none⟩ = some x.2.2

/-- The one value that reads as this datum. -/
def D.exact : D → Option Value
  | .val (.bool b) => some (.bool b)
  | .val (.int k n) => some (.int k n)
  | .val .nil => some (.pointer none)
  | .ptr b o => some (.pointer (some ⟨b, o, none⟩))
  | .sl b o n c => some (.slice (some ⟨b, o, none⟩) n c)
  | .own v _ => some v
  | _ => none

theorem exact_rep {C : Imm} {u v : Value} {d : D} (r : RepD C u d) (h : d.exact = some v) : u = v := by
  unfold D.exact at h
  split at h <;> simp only [Option.some.injEq, reduceCtorEq] at h <;> subst h
  · exact rep_bool r
  · exact rep_int r
  · cases r with | val _ _ h => cases h; rfl
  · exact rep_ptr r
  · exact rep_sl r
  · cases r; rfl

/-- What an owned block says of a cell. -/
inductive ExactsOf : Exacts → List Chunk → Prop
  | nil {σ : List Chunk} : ExactsOf [] σ
  | cons {K : Exacts} {σ : List Chunk} {b i : Nat} {v : Value} {ds : List D} {d : D} (h1 : (.blk b ds) ∈ σ) (h2 : ds[i]? = some d) (h3 : d.exact = some v) (h : ExactsOf K σ) : ExactsOf ((b, i, v) :: K) σ

theorem ExactsOf.get {K : Exacts} {σ : List Chunk} (h : ExactsOf K σ) : ∀ x ∈ K, ∃ ds d, (.blk x.1 ds) ∈ σ ∧ ds[x.2.1]? = some d ∧ d.exact = some x.2.2 := by
  induction h with
  | nil => exact fun x hx => absurd hx (by simp)
  | cons h1 h2 h3 _ ih =>
    intro x hx
    rcases List.mem_cons.mp hx with rfl | hx
    · exact ⟨_, _, h1, h2, h3⟩
    · exact ih x hx

theorem kept_of {G : Gh} {σ : List Chunk} {w : World} {K : Exacts} (hi : Inv G σ w) (h : ExactsOf K σ) : Kept G.C K w := by
  refine ⟨hi.agree, fun x hx => ?_⟩
  obtain ⟨ds, d, h1, h2, h3⟩ := h.get x hx
  obtain ⟨hlt, rfl⟩ := List.getElem?_eq_some_iff.mp h2
  obtain ⟨vs, g1, g2⟩ := cell_of_blk hi h1
  rw [g1 _ hlt, exact_rep (g2 _ hlt) h3]

/-- An operation that leaves this datum whatever else has been done. -/
def PureOp (P : Program) (K : Exacts) (s : Slots) (δ : Defs) (o : Oper) (d : D) : Prop :=
  ∀ G a, RelA G s δ a → ∃ v, RepD G.C v d ∧ ∀ w, Kept G.C K w → (execOp a.eval o).run P w = .ok (.value v) w

/-- Whatever order is drawn from here on. -/
def SA (P : Program) (ops : Array Oper) (fuel : Nat) (listed : Array Bool) (Q : Post) (s : Slots) (δ : Defs) (σ : List Chunk) (K : Exacts) : Prop :=
  ∀ G a w, Inv G σ w → RelA G s δ a → wpAnyH P .any ops (Lift G Q) (Kept G.C K) fuel listed a w

/-- On a panic nothing is asked of the slots. -/
class PanicOk (Q : Post) : Prop where
  ok : ∀ ch s s' δ σ, Q (.panic ch) s δ σ → Q (.panic ch) s' δ σ

theorem wpAnyH_mono {P : Program} {md : Region.Mode} {ops : Array Oper} {Q Q' : Exit → Act → World → Prop} {S S' : World → Prop} (hq : ∀ e a w, Q e a w → Q' e a w) (hs : ∀ w, S w → S' w) :
    ∀ (fuel : Nat) (listed : Array Bool) (a : Act) (w : World), wpAnyH P md ops Q S fuel listed a w → wpAnyH P md ops Q' S' fuel listed a w
  | 0, _, _, _, h => ⟨h.1, hq _ _ _ h.2⟩
  | fuel + 1, listed, a, w, h => by
    refine ⟨fun hr => hq _ _ _ (h.1 hr), fun i hi => ?_⟩
    have h1 := h.2 i hi
    unfold wpOp at h1 ⊢
    split at h1
    · rename_i ho
      exact ⟨hs _ h1.1, wpAnyH_mono hq hs fuel _ _ _ h1.2⟩
    · rename_i o ho
      split at h1 <;> rename_i hw
      · simp only [hw, if_true]
        rcases h1 with h1 | ⟨h1, h2⟩
        · exact .inl (Oper.wp_mono2 (fun a w hk => ⟨hs _ hk.1, wpAnyH_mono hq hs fuel _ _ _ hk.2⟩) hq h1)
        · exact .inr ⟨h1, LetsOut.mono hq h2⟩
      · simp only [hw]
        exact ⟨hs _ h1.1, wpAnyH_mono hq hs fuel _ _ _ h1.2⟩

section rules
variable {P : Program} {ops : Array Oper} {Q : Post} {s : Slots} {δ : Defs} {σ : List Chunk} {K : Exacts} {fuel : Nat} {listed : Array Bool}

theorem SA.use {G G' : Gh} (hle : G.le G') (h : SA P ops fuel listed Q s δ σ K) {a : Act} {w : World} (hi : Inv G' σ w) (hr : RelA G' s δ a) : wpAnyH P .any ops (Lift G Q) (Kept G.C K) fuel listed a w :=
  wpAnyH_mono (fun _ _ _ l => l.mono hle) (fun w hk => ⟨fun b o v hv => hk.1 b o v (hle.2 b o v hv), hk.2⟩) _ _ _ _ (h G' a w hi hr)

theorem sa_start {id : Nat} {l : List Oper} (K : Exacts) (hm : P.follows .mixedOrders = true) (h : SA P l.toArray l.length (Array.replicate l.length false) Q s δ σ K) : SW P (.region id l.toArray true) Q s δ σ := fun G a w hi hr => by
  have h1 := h G a w.drew hi.drew hr
  refine wp_region_held (S := Kept G.C K) hm ?_
  simpa using h1

theorem sa_done (hr : Region.ready .any ops listed = []) (h : Q .normal s δ σ) : SA P ops fuel listed Q s δ σ K := fun G a w hi hrel =>
  wpAnyH_done hr ⟨G, s, δ, σ, G.le_refl, hi, hrel, h⟩ _

theorem lift_panic {G : Gh} (hQ : PanicOk Q) {c : List PanicEntry} {a : Act} {dst : Option Tmp} {v : Value} {w : World} (h : Lift G Q (.panic c) (a.put dst v) w) : Lift G Q (.panic c) a w := by
  obtain ⟨G', s', δ', σ', h1, h2, h3, h4⟩ := h
  refine ⟨G', ⟨a.tmps.size, .nil⟩, δ', σ', h1, h2, ⟨rfl, fun k hk => .junk _, ?_, ?_⟩, hQ.ok _ _ _ _ _ h4⟩
  · have := h3.defs
    cases dst <;> exact this
  · intro k hk
    obtain ⟨cap, args, g1, g2⟩ := h3.defd k hk
    refine ⟨cap, args, ?_, g2⟩
    cases dst <;> exact g1

/-- What stands for an operation that may be taken now. -/
def saOk (ops : Array Oper) (listed : Array Bool) (i : Nat) : Bool := Region.noSelect ops && Region.free .any ops listed i && (Region.ready .any ops listed).contains i

theorem saOk_of {ops : Array Oper} {listed : Array Bool} {i : Nat} (h : saOk ops listed i = true) : Region.noSelect ops = true ∧ Region.free .any ops listed i = true ∧ (Region.ready .any ops listed).contains i = true := by
  simp only [saOk, Bool.and_eq_true] at h
  exact ⟨h.1.1, h.1.2, h.2⟩

/-- A pure operation may be taken first. -/
theorem sa_take (i : Nat) {o : Oper} {d : D} (ho : ops[i]? = some o) (hg : o.guard = none) (h0 : saOk ops listed i = true) [hQ : PanicOk Q] (hK : ExactsOf K σ) (hp : PureOp P K s δ o d)
    (h : SA P ops fuel (listed.setIfInBounds i true) Q (sput s o.dst d) δ σ K) : SA P ops (fuel + 1) listed Q s δ σ K := fun G a w hi hrel => by
  obtain ⟨hs, hf, hr⟩ := saOk_of h0
  obtain ⟨v, h1, h2⟩ := hp G a hrel
  exact wpAnyH_take ho hs hf hr (fun c a w hl => lift_panic hQ hl) (.inl ⟨by simp [Region.wanted, hg], h2⟩) (kept_of hi hK) (h G _ w hi (hrel.put o.dst h1))

/-- An operation under a guard that is known. -/
theorem sa_take_y (i : Nat) {o : Oper} {d : D} {j : Nat} {want b : Bool} {t : Tmp} (ho : ops[i]? = some o) (hg : o.guard = some (j, want)) (hj : (ops[j]?).bind (·.dst) = some t) (hb : evalO s (.tmp t) = .val (.bool b)) (hbw : b = want)
    (h0 : saOk ops listed i = true) [hQ : PanicOk Q] (hK : ExactsOf K σ) (hp : PureOp P K s δ o d)
    (h : SA P ops fuel (listed.setIfInBounds i true) Q (sput s o.dst d) δ σ K) : SA P ops (fuel + 1) listed Q s δ σ K := fun G a w hi hrel => by
  obtain ⟨hs, hf, hr⟩ := saOk_of h0
  obtain ⟨v, h1, h2⟩ := hp G a hrel
  have he := evalO_bool hrel hb
  have hyd : yielded ops a.tmps j = some b := by
    unfold yielded
    simp only [hj, Option.bind_some]
    simp only [Act.eval] at he
    have : t < a.tmps.size := by
      rcases Nat.lt_or_ge t a.tmps.size with h | h
      · exact h
      · simp [h, undef] at he
    rw [Array.getElem?_eq_getElem this]
    simp only [Array.getD_eq_getD_getElem?, Array.getElem?_eq_getElem this, Option.getD_some] at he
    rw [he]
  exact wpAnyH_take ho hs hf hr (fun c a w hl => lift_panic hQ hl) (.inl ⟨by simp [Region.wanted, hg, hyd, hbw], h2⟩) (kept_of hi hK) (h G _ w hi (hrel.put o.dst h1))

theorem sa_take_n (i : Nat) {o : Oper} {j : Nat} {want b : Bool} {t : Tmp} (ho : ops[i]? = some o) (hg : o.guard = some (j, want)) (hj : (ops[j]?).bind (·.dst) = some t) (hb : evalO s (.tmp t) = .val (.bool b)) (hbw : b = !want)
    (h0 : saOk ops listed i = true) [hQ : PanicOk Q] (hK : ExactsOf K σ)
    (h : SA P ops fuel (listed.setIfInBounds i true) Q (sput s o.dst (.tup [])) δ σ K) : SA P ops (fuel + 1) listed Q s δ σ K := fun G a w hi hrel => by
  obtain ⟨hs, hf, hr⟩ := saOk_of h0
  have he := evalO_bool hrel hb
  have hyd : yielded ops a.tmps j = some b := by
    unfold yielded
    simp only [hj, Option.bind_some]
    simp only [Act.eval] at he
    have : t < a.tmps.size := by
      rcases Nat.lt_or_ge t a.tmps.size with h | h
      · exact h
      · simp [h, undef] at he
    rw [Array.getElem?_eq_getElem this]
    simp only [Array.getD_eq_getD_getElem?, Array.getElem?_eq_getElem this, Option.getD_some] at he
    rw [he]
  exact wpAnyH_take (v := undef) ho hs hf hr (fun c a w hl => lift_panic hQ hl) (.inr ⟨by simp [Region.wanted, hg, hyd, hbw], rfl⟩) (kept_of hi hK) (h G _ w hi (hrel.put o.dst (rep_undef G.C)))

/-- What is left to do behind one operation. -/
def stepQ (N : Slots → Defs → List Chunk → Prop) (Q : Post) : Post
  | .normal, s, δ, σ => N s δ σ
  | e, s, δ, σ => Q e s δ σ

theorem wpOp_of_list {i : Nat} {o : Oper} {a : Act} {w : World} {R R' : Exit → Act → World → Prop} {N : Act → World → Prop} (ho : ops[i]? = some o) (h : wpList P ops R [o] a w) (hn : ∀ a w, R .normal a w → N a w)
    (hq : ∀ e a w, e ≠ .normal → R e a w → R' e a w) : wpOp P ops R' i N a w := by
  unfold wpOp
  simp only [ho]
  unfold wpList at h
  have key : ∀ (oo : Oper) (a : Act) (w : World), oo.wp P a w (wpList P ops R []) R → oo.wp P a w N R' := by
    intro oo a w hh
    unfold Oper.wp at *
    generalize (execOp a.eval oo).run P w = r at *
    cases r with
    | ok n w' =>
      cases n <;> simp only [Oper.upon] at hh ⊢ <;>
        first
          | exact hn _ _ hh
          | exact Calls.mono hh (fun e w'' he => by cases e <;> first | exact hn _ _ he | exact hq _ _ _ (by simp) he | (obtain ⟨a0, w0, h0⟩ := he; exact ⟨a0, w0, hq _ _ _ (by simp) h0⟩))
          | exact Rows.mono hh (fun _ _ he => hn _ _ he)
    | halt x w' => cases x <;> simp only [Oper.upon] at hh ⊢ <;> exact hq _ _ _ (by simp) hh
  split at h <;> rename_i hw
  · rw [if_pos hw]
    rcases h with h | ⟨h1, a0, w0, h2⟩
    · exact .inl (key o a w h)
    · exact .inr ⟨h1, a0, w0, hq _ _ _ (by simp) h2⟩
  · rw [if_neg hw]; exact hn _ _ h

/-- Each operation that may come now. -/
theorem sa_all {rs : List Nat} (hr : Region.ready .any ops listed = rs) (hne : rs ≠ [])
    (h : ∀ i ∈ rs, ∃ o, ops[i]? = some o ∧ SL P ops [o] (stepQ (fun s δ σ => ExactsOf K σ ∧ SA P ops fuel (listed.setIfInBounds i true) Q s δ σ K) Q) s δ σ) :
    SA P ops (fuel + 1) listed Q s δ σ K := fun G a w hi hrel => by
  refine wpAnyH_all hr hne fun i him => ?_
  obtain ⟨o, ho, hsl⟩ := h i him
  refine wpOp_of_list ho (hsl G a w hi hrel) (fun a' w' hl => ?_) (fun e a' w' hne' hl => ?_)
  · obtain ⟨G', s', δ', σ', h1, h2, h3, h4, h5⟩ := hl
    have hk := kept_of h2 h4
    exact ⟨⟨fun b o v hv => hk.1 b o v (h1.2 b o v hv), hk.2⟩, h5.use h1 h2 h3⟩
  · obtain ⟨G', s', δ', σ', h1, h2, h3, h4⟩ := hl
    cases e with
    | normal => exact absurd rfl hne'
    | exit id => exact ⟨G', s', δ', σ', h1, h2, h3, h4⟩
    | goto l => exact ⟨G', s', δ', σ', h1, h2, h3, h4⟩
    | ret => exact ⟨G', s', δ', σ', h1, h2, h3, h4⟩
    | panic ch => exact ⟨G', s', δ', σ', h1, h2, h3, h4⟩
    | outgrown => exact ⟨G', s', δ', σ', h1, h2, h3, h4⟩

theorem sa_one (i : Nat) {o : Oper} (hr : Region.ready .any ops listed = [i]) (ho : ops[i]? = some o)
    (h : SL P ops [o] (stepQ (fun s δ σ => ExactsOf K σ ∧ SA P ops fuel (listed.setIfInBounds i true) Q s δ σ K) Q) s δ σ) : SA P ops (fuel + 1) listed Q s δ σ K :=
  sa_all hr (by simp) fun j hj => by
    have : j = i := by simpa using hj
    subst this
    exact ⟨o, ho, h⟩

instance panicOk_then {N : Slots → Defs → List Chunk → Prop} [h : PanicOk Q] : PanicOk (thenQ N Q) := ⟨fun ch s s' δ σ hq => h.ok ch s s' δ σ hq⟩
instance panicOk_step {N : Slots → Defs → List Chunk → Prop} [h : PanicOk Q] : PanicOk (stepQ N Q) := ⟨fun ch s s' δ σ hq => h.ok ch s s' δ σ hq⟩
instance panicOk_block {id : Nat} [h : PanicOk Q] : PanicOk (inBlockQ id Q) := ⟨fun ch s s' δ σ hq => h.ok ch s s' δ σ hq⟩
instance panicOk_body {fn : Func} {R : D → List Chunk → Prop} {Rp : List PanicEntry → List Chunk → Prop} : PanicOk (bodyQ P fn R Rp) := ⟨fun ch s s' δ σ hq => hq⟩

/-! ### The pure operations -/

variable {o : Oper}

theorem pu_move {x : Operand} (ho : o.op = .move x) : PureOp P K s δ o (evalO s x) := fun G a hr => ⟨a.eval x, hr.eval x, fun w _ => by simp only [execOp, ho]; rfl⟩

theorem pu_pick_t {cd x y : Operand} {b : Bool} (ho : o.op = .pick cd x y) (hb : evalO s cd = .val (.bool b)) (h : b = true) : PureOp P K s δ o (evalO s x) := fun G a hr => ⟨a.eval x, hr.eval x, fun w _ => by
  have := evalO_bool hr hb
  subst h
  simp [execOp, ho, this, asBool]⟩

theorem pu_pick_f {cd x y : Operand} {b : Bool} (ho : o.op = .pick cd x y) (hb : evalO s cd = .val (.bool b)) (h : b = false) : PureOp P K s δ o (evalO s y) := fun G a hr => ⟨a.eval y, hr.eval y, fun w _ => by
  have := evalO_bool hr hb
  subst h
  simp [execOp, ho, this, asBool]⟩

theorem pu_bin {op : BinOp} {t t' : TypeId} {x y : Operand} {k : IntKind} {m n : Int} {z : V} (ho : o.op = .binOp op t x y t')
    (hx : evalO s x = .val (.int k m)) (hy : evalO s y = .val (.int k n)) (hz : binI op k m n = some z) : PureOp P K s δ o (.val z) := fun G a hr => by
  have h1 := hr.eval x; rw [hx] at h1; have h1 := rep_int h1
  have h2 := hr.eval y; rw [hy] at h2; have h2 := rep_int h2
  cases op <;> simp only [binI, Option.some.injEq, reduceCtorEq] at hz <;> subst hz <;>
    refine ⟨_, rep_bin (by first | exact .int _ _ | exact .bool _), fun w _ => ?_⟩ <;>
    simp [execOp, ho, h1, h2, run_guard_int, binOp, Op.intArith, Op.intBits, Op.intCmp]

theorem pu_rem {t t' : TypeId} {x y : Operand} {k : IntKind} {m n : Int} (ho : o.op = .binOp .rem t x y t')
    (hx : evalO s x = .val (.int k m)) (hy : evalO s y = .val (.int k n)) (hn : n ≠ 0) : PureOp P K s δ o (.val (.int k (m.tmod n))) := fun G a hr => by
  have h1 := hr.eval x; rw [hx] at h1; have h1 := rep_int h1
  have h2 := hr.eval y; rw [hy] at h2; have h2 := rep_int h2
  refine ⟨_, rep_bin (.int _ _), fun w _ => ?_⟩
  simp [execOp, ho, h1, h2, run_guard_int, binOp, Op.intDiv, hn]

theorem pu_not {t : TypeId} {x : Operand} {b : Bool} (ho : o.op = .unOp .not t x) (hx : evalO s x = .val (.bool b)) : PureOp P K s δ o (.val (.bool (!b))) := fun G a hr => by
  have h1 := hr.eval x; rw [hx] at h1; have h1 := rep_bool h1
  refine ⟨_, rep_bin (.bool _), fun w _ => ?_⟩
  simp [execOp, ho, h1, Op.unary]

theorem pu_conv_int {t t' : TypeId} {x : Operand} {k k' : IntKind} {m : Int} (ho : o.op = .convert t t' x) (hx : evalO s x = .val (.int k m))
    (ht : (P.underlying t).isSome = true) (ht' : P.underlying t' = some (.int k')) : PureOp P K s δ o (.val (.int k' (k'.wrap m))) := fun G a hr => by
  have h1 := hr.eval x; rw [hx] at h1; have h1 := rep_int h1
  obtain ⟨d, hd⟩ := Option.isSome_iff_exists.mp ht
  refine ⟨_, rep_bin (.int _ _), fun w _ => ?_⟩
  simp only [execOp, ho, h1, convert, underlying, Sem.run_bind, run_program, Result.andThen_ok, hd, ht', Sem.run_pure]
  cases d <;> simp [Conv.intToInt]

theorem pu_bool_eq {t t' : TypeId} {x y : Operand} {m n : Bool} (ho : o.op = .binOp .eql t x y t')
    (hx : evalO s x = .val (.bool m)) (hy : evalO s y = .val (.bool n)) (ht : P.underlying t = some .bool) : PureOp P K s δ o (.val (.bool (m == n))) := fun G a hr => by
  have h1 := hr.eval x; rw [hx] at h1; have h1 := rep_bool h1
  have h2 := hr.eval y; rw [hy] at h2; have h2 := rep_bool h2
  exact ⟨_, rep_bin (.bool _), fun w _ => run_execBin ho (by rw [h1, h2]; exact run_guard_bool ..) (by rw [h1, h2]; exact run_eql_bool P w t m n ht)⟩

theorem pu_str {op : BinOp} {t t' : TypeId} {x y : Operand} {m n : List UInt8} {z : V} (ho : o.op = .binOp op t x y t')
    (hx : evalO s x = .val (.str m)) (hy : evalO s y = .val (.str n)) (hz : binS op m n = some z) : PureOp P K s δ o (.val z) := fun G a hr => by
  have h1 := hr.eval x; rw [hx] at h1; obtain ⟨t1, e1, rfl⟩ := rep_str h1
  have h2 := hr.eval y; rw [hy] at h2; obtain ⟨t2, e2, rfl⟩ := rep_str h2
  cases op <;> simp only [binS, Option.some.injEq, reduceCtorEq] at hz <;> subst hz <;>
    exact ⟨_, rep_bin (.bool _), fun w _ => run_execBin ho (by rw [e1, e2]; exact run_guard_str ..) (by rw [e1, e2]; simp only [binOp, Op.stringOp, Sem.run_pure, toList_data])⟩

theorem pu_nilCheck {x : Operand} (ho : o.op = .nilCheck x) (hx : (evalO s x).sure = true) : PureOp P K s δ o (evalO s x) := fun G a hr => by
  have h1 := hr.eval x
  refine ⟨a.eval x, h1, fun w _ => ?_⟩
  generalize evalO s x = d at h1 hx
  generalize hv : a.eval x = v at h1
  cases h1 with
  | ptr b f => simp [execOp, ho, hv]
  | rp b f xs vs _ _ => simp [execOp, ho, hv]
  | func f vs ds _ _ => simp [execOp, ho, hv]
  | val _ y h => cases h <;> first | (simp [D.sure] at hx; done) | simp [execOp, ho, hv]
  | _ => simp [D.sure] at hx

theorem pu_fieldAddr_ptr {t : TypeId} {x : Operand} {i off b f : Nat} (ho : o.op = .fieldAddr t x i) (hx : evalO s x = .ptr b f) (hf : fieldOff P t i = some off) : PureOp P K s δ o (.ptr b (f + off)) := fun G a hr => by
  have h1 := hr.eval x; rw [hx] at h1; have e1 := rep_ptr h1
  exact ⟨_, .ptr _ _, fun w _ => by simp only [execOp, ho, e1, Sem.run_bind, run_fieldAt hf, Result.andThen_ok, Sem.run_pure]⟩

theorem pu_fieldAddr_rp {t : TypeId} {x : Operand} {i off : Nat} {xs : List V} (ho : o.op = .fieldAddr t x i) (hx : evalO s x = .rp xs) (hf : fieldOff P t i = some off) : PureOp P K s δ o (.rp (xs.drop off)) := fun G a hr => by
  have h1 := hr.eval x; rw [hx] at h1; obtain ⟨b, f, vs, e1, h2, h3⟩ := rep_rp h1
  exact ⟨_, rep_rp_drop off h2 h3, fun w _ => by simp only [execOp, ho, e1, Sem.run_bind, run_fieldAt hf, Result.andThen_ok, Sem.run_pure]⟩

theorem pu_fieldAddr_ref {t : TypeId} {x : Operand} {i off : Nat} {y : V} (ho : o.op = .fieldAddr t x i) (hx : evalO s x = .val (.ref y)) (hf : fieldOff P t i = some off) : PureOp P K s δ o (.rp (y.cells.drop off)) := fun G a hr => by
  have h1 := hr.eval x; rw [hx] at h1; obtain ⟨b, f, vs, e1, h2, h3⟩ := rep_rp (Weak.ref y _ _ h1)
  exact ⟨_, rep_rp_drop off h2 h3, fun w _ => by simp only [execOp, ho, e1, Sem.run_bind, run_fieldAt hf, Result.andThen_ok, Sem.run_pure]⟩

theorem pu_load_rp1 {t : TypeId} {x : Operand} {xs : List V} {y : V} (ho : o.op = .load t x) (hx : evalO s x = .rp xs) (ht : aggOf P t = some false) (hy : xs[0]? = some y) : PureOp P K s δ o (.val y) := fun G a hr => by
  have h1 := hr.eval x; rw [hx] at h1; obtain ⟨b, f, vs, e1, h2, h3⟩ := rep_rp h1
  obtain ⟨h0, rfl⟩ := List.getElem?_eq_some_iff.mp hy
  exact ⟨vs 0, .val _ _ (h3 0 h0), fun w hk => run_op_load ho (by rw [e1]; exact run_load_one ht (hk.1 _ _ _ (h2 0 h0)))⟩

theorem pu_load_rpn {t : TypeId} {x : Operand} {xs : List V} {n : Nat} (ho : o.op = .load t x) (hx : evalO s x = .rp xs) (ht : aggOf P t = some true) (hn : szOf P t = some n) (hle : n ≤ xs.length) :
    PureOp P K s δ o (.val (.agg (xs.take n))) := fun G a hr => by
  have h1 := hr.eval x; rw [hx] at h1; obtain ⟨b, f, vs, e1, h2, h3⟩ := rep_rp h1
  refine ⟨.agg ((List.range n).map vs).toArray, .val _ _ (.agg _ _ (by simp; omega) (fun k hk => ?_)), fun w hk => run_op_load ho (by rw [e1]; exact run_load_agg ht hn (fun k hk' => hk.1 _ _ _ (h2 k (by omega))))⟩
  have hk' : k < n := by simp at hk; omega
  rw [range_getD n k vs hk', List.getElem_take]
  exact h3 k (by omega)

/-- A load from an owned block: of a cell that stays what it is. -/
theorem pu_load_blk1 {t : TypeId} {x : Operand} {b f : Nat} {v : Value} {d : D} (ho : o.op = .load t x) (hx : evalO s x = .ptr b f) (ht : aggOf P t = some false) (hK : (b, f, v) ∈ K)
    (hd : ∀ G a, RelA G s δ a → RepD G.C v d) : PureOp P K s δ o d := fun G a hr => by
  have h1 := hr.eval x; rw [hx] at h1; have e1 := rep_ptr h1
  exact ⟨v, hd G a hr, fun w hk => run_op_load ho (by rw [e1]; exact run_load_one ht (hk.2 _ hK))⟩

theorem pu_indexAddr {t e : TypeId} {x i : Operand} {k : IntKind} {n : Int} {xs : List V} {y : V} {sz : Nat} (ho : o.op = .indexAddr t x i)
    (hx : (evalO s x).asList = some xs) (hn : evalO s i = .val (.int k n)) (ht : P.underlying t = some (.slice e)) (hs : szOf P e = some sz)
    (h0 : 0 ≤ n) (hy : xs[n.toNat]? = some y) (hsz : y.cells.length = sz) : PureOp P K s δ o (.rp y.cells) := fun G a hr => by
  have h1 := asList_rep (hr.eval x) hx
  have h2 := hr.eval i; rw [hn] at h2; have e2 := rep_int h2
  obtain ⟨hlt, rfl⟩ := List.getElem?_eq_some_iff.mp hy
  generalize hv : a.eval x = v at h1
  cases h1 with
  | empty => simp at hlt
  | list b f cp sz' xs vs h1 h3 h4 h5 =>
    have hz : sz' = sz := by rw [← h3 _ hlt, hsz]
    subst hz
    refine ⟨.pointer (some ⟨b, f + n.toNat * sz', none⟩), .rp _ _ _ (vs n.toNat) (fun k hk => ?_) (fun k hk => h5 _ _ hlt hk), fun w _ => ?_⟩
    · exact h4 _ _ hlt (by rw [← hsz]; exact hk)
    · have hin : 0 ≤ n ∧ n < (xs.length : Int) := ⟨h0, by omega⟩
      simp only [execOp, ho, hv, e2, Instr.indexAt, asIntOf, Sem.run_bind, Sem.run_pure, Result.andThen_ok, run_under ht, hin, and_self, if_true, run_sizeOf hs, addr_add]

theorem pu_len {t : TypeId} {x : Operand} {xs : List V} (ho : o.op = .call { callee := .builtin .len, args := #[x], argTypes := #[t] })
    (hx : (evalO s x).asList = some xs) (ht : ∃ e, P.underlying t = some (.slice e)) : PureOp P K s δ o (.val (.int .i64 xs.length)) := fun G a hr => by
  obtain ⟨e, he⟩ := ht
  obtain ⟨ad, cp, hv, _⟩ := rep_list_len (asList_rep (hr.eval x) hx)
  refine ⟨_, rep_bin (.int _ _), fun w _ => run_call_builtin ho ?_⟩
  simp only [builtin, List.map_toArray, List.map_cons, List.map_nil, Builtin.len_, Sem.run_bind, hv]
  simp only [List.getElem?_toArray, List.getElem?_cons_zero, Sem.run_bind, run_under he, Result.andThen_ok, Sem.run_pure, goInt]

theorem pu_len_str {t : TypeId} {x : Operand} {l : List UInt8} (ho : o.op = .call { callee := .builtin .len, args := #[x], argTypes := #[t] })
    (hx : evalO s x = .val (.str l)) (ht : P.underlying t = some .string) : PureOp P K s δ o (.val (.int .i64 l.length)) := fun G a hr => by
  have h1 := hr.eval x; rw [hx] at h1; obtain ⟨t1, e1, rfl⟩ := rep_str h1
  refine ⟨_, rep_bin (.int _ _), fun w _ => run_call_builtin ho ?_⟩
  simp only [builtin, List.map_toArray, List.map_cons, List.map_nil, Builtin.len_, Sem.run_bind, e1]
  simp only [List.getElem?_toArray, List.getElem?_cons_zero, Sem.run_bind, run_under ht, Result.andThen_ok, Sem.run_pure, goInt, Array.length_toList]
  rfl

theorem pu_build {t : TypeId} {parts : List (Nat × Operand)} {pl : List (Nat × Nat)} {zs ds : List D} (ho : o.op = .build t parts.toArray)
    (hp : buildInfo P t = some pl) (hz : zeroDs P t = some zs) (hf : fillD (fun i => pl[i]?) zs (parts.map fun p => (p.1, evalO s p.2)) = some ds) : PureOp P K s δ o (.agg ds) := fun G a hr => by
  obtain ⟨fs, hu, hrun⟩ := buildInfo_run hp
  obtain ⟨v, hv, hvr⟩ := zero_cells hz
  obtain ⟨cs', h1, h2, h3⟩ := fill_rep (C := G.C) (fun x => hr.eval x) parts v.cells zs ds (hvr G.C).1 (hvr G.C).2 hf
  refine ⟨.agg cs', .agg _ _ h2 h3, fun w _ => ?_⟩
  have hpl : ∀ i, pl.toArray[i]? = pl[i]? := fun i => List.getElem?_toArray ..
  have hm : (parts.toArray.map fun (i, x) => (i, a.eval x)).toList = parts.map fun p => (p.1, a.eval p.2) := by rw [List.map_toArray]
  simp only [execOp, ho, Instr.build, Sem.run_bind, run_zeroOf hv, Result.andThen_ok, run_under hu, hrun w, hm, hpl, h1, Sem.run_pure]

end rules
end Go.Proofs.YtlolmemiedhhhaaDoor.SL

/- The program logic, tenth part: what a statement's arguments read as. -/
namespace Go.Proofs.YtlolmemiedhhhaaDoor.SL
set_option linter.unusedVariables false
set_option linter.unusedSimpArgs false
open Go Go.RowKit

/-- All that there is when the law is called is immutable for it. -/
def memC (W : World) : Imm := fun b o => W.cell? ⟨b, o, none⟩

theorem inv_start (W : World) (ht : Tabs W) : Inv ⟨W, memC W, ht⟩ [] W :=
  ⟨Below.refl _ _, fun _ _ _ h => h, fun _ h => absurd h (by simp), by simp, fun _ h => absurd h (by simp), fun _ h => absurd h (by simp)⟩

/-- A law's contract as the statement wants it. -/
theorem law_calls {P : Program} {f : FuncId} {ds : List D} (h : FSpec P f ds [] fun d _ => d = .val (.bool true)) {W : World} (ht : Tabs W) {vs : Array Value} (hr : RepDs (memC W) vs ds) :
    Calls P f vs W fun e w' => e = .returned (.bool true) ∧ Below W.heap.size W w' :=
  (h ⟨W, memC W, ht⟩ vs W (inv_start W ht) hr).mono fun e w' he => by
    cases e with
    | returned v =>
      obtain ⟨G', d, σ', h1, h2, h3, rfl⟩ := he
      refine ⟨by rw [rep_bool h3], ?_⟩
      have := h2.below
      rw [h1.1] at this; exact this
    | panicked ch => obtain ⟨_, _, _, _, h⟩ := he; exact h.elim
    | outgrown => exact he.elim

/-- Whatever the reading tells of cells at type t, there are data that they read as, of this make. -/
def Covers (P : Program) (n : Nat) (t : TypeId) (S : List V → Prop) : Prop :=
  ∀ (H : Type) (enc : TypeId × Value → H) (W : World) (sp : Nat → Bool) (held : Bool) (cs : List Value) (d : DataW H) (ps : List MemPlace), DataW.trod enc P W 0 sp held n t cs = some (d, ps) →
    ∃ xs, S xs ∧ cs.length = xs.length ∧ ∀ k (hk : k < xs.length), RepV (memC W) (cs.getD k undef) xs[k]

theorem Covers.mono {P : Program} {n : Nat} {t : TypeId} {S S' : List V → Prop} (h : Covers P n t S) (hs : ∀ xs, S xs → S' xs) : Covers P n t S' := fun H enc W sp held cs d ps e => by
  obtain ⟨xs, h1, h2⟩ := h H enc W sp held cs d ps e
  exact ⟨xs, hs xs h1, h2⟩

theorem covers_zero {P : Program} {t : TypeId} {S : List V → Prop} : Covers P 0 t S := fun H enc W sp held cs d ps h => by simp [DataW.trod] at h

theorem rep_single {C : Imm} {v : Value} {x : V} (h : RepV C v x) : [v].length = [x].length ∧ ∀ k (hk : k < [x].length), RepV C ([v].getD k undef) [x][k] := by
  refine ⟨rfl, fun k hk => ?_⟩
  have : k = 0 := by simpa using hk
  subst this; exact h

theorem inv_bool {P : Program} {n : Nat} {t : TypeId} {H : Type} {enc : TypeId × Value → H} {W : World} {sp : Nat → Bool} {held : Bool} {cs : List Value} {x : DataW H × List MemPlace} (ht : P.underlying t = some .bool)
    (h : DataW.trod enc P W 0 sp held (n + 1) t cs = some x) : ∃ b, cs = [.bool b] := by
  match cs with
  | [] => simp [DataW.trod, ht] at h
  | [v] =>
    cases v with
    | bool b => exact ⟨b, rfl⟩
    | _ => simp [DataW.trod, ht] at h
  | _ :: _ :: _ => simp [DataW.trod, ht] at h

theorem inv_int {P : Program} {n : Nat} {t : TypeId} {k : IntKind} {H : Type} {enc : TypeId × Value → H} {W : World} {sp : Nat → Bool} {held : Bool} {cs : List Value} {x : DataW H × List MemPlace} (ht : P.underlying t = some (.int k))
    (h : DataW.trod enc P W 0 sp held (n + 1) t cs = some x) : ∃ i, cs = [.int k i] ∧ (Lit.int k i).wf = true := by
  match cs with
  | [] => simp [DataW.trod, ht] at h
  | [v] =>
    cases v with
    | int k' i =>
      simp only [DataW.trod, ht] at h
      split at h
      · rename_i hc; obtain ⟨rfl, hw⟩ := hc; exact ⟨i, rfl, hw⟩
      · cases h
    | _ => simp [DataW.trod, ht] at h
  | _ :: _ :: _ => simp [DataW.trod, ht] at h

theorem inv_str {P : Program} {n : Nat} {t : TypeId} {H : Type} {enc : TypeId × Value → H} {W : World} {sp : Nat → Bool} {held : Bool} {cs : List Value} {x : DataW H × List MemPlace} (ht : P.underlying t = some .string)
    (h : DataW.trod enc P W 0 sp held (n + 1) t cs = some x) : ∃ b : ByteArray, cs = [.string b] ∧ b.size ≤ maxLen := by
  match cs with
  | [] => simp [DataW.trod, ht] at h
  | [v] =>
    cases v with
    | string b =>
      simp only [DataW.trod, ht] at h
      split at h
      · rename_i hc; exact ⟨b, rfl, hc⟩
      · cases h
    | _ => simp [DataW.trod, ht] at h
  | _ :: _ :: _ => simp [DataW.trod, ht] at h

theorem inv_slice {P : Program} {n : Nat} {t e : TypeId} {H : Type} {enc : TypeId × Value → H} {W : World} {sp : Nat → Bool} {held : Bool} {cs : List Value} {x : DataW H × List MemPlace} (ht : P.underlying t = some (.slice e))
    (h : DataW.trod enc P W 0 sp held (n + 1) t cs = some x) : cs = [.slice none 0 0] ∨ ∃ a len cap elems, cs = [.slice (some a) len cap] ∧ len ≤ cap ∧ cap ≤ maxLen ∧
      ((List.range len).mapM fun i => (W.cells? 0 (a.add (i * P.cellsOf e)) (P.cellsOf e)).bind (DataW.trod enc P W 0 sp held n e)) = some elems := by
  match cs with
  | [] => simp [DataW.trod, ht] at h
  | [v] =>
    cases v with
    | slice ad len cap =>
      cases ad with
      | none =>
        cases len <;> cases cap <;> first | exact .inl rfl | simp [DataW.trod, ht] at h
      | some a =>
        simp only [DataW.trod, ht] at h
        split at h
        · rename_i hc
          obtain ⟨elems, he, _⟩ := Option.bind_eq_some_iff.mp h
          exact .inr ⟨a, len, cap, elems, rfl, hc.2.1, hc.2.2, he⟩
        · cases h
    | _ => simp [DataW.trod, ht] at h
  | _ :: _ :: _ => simp [DataW.trod, ht] at h

theorem covers_bool {P : Program} {n : Nat} {t : TypeId} (ht : P.underlying t = some .bool) : Covers P n t fun xs => ∃ b, xs = [.bool b] := fun H enc W sp held cs d ps h => by
  cases n with
  | zero => simp [DataW.trod] at h
  | succ n =>
    obtain ⟨b, rfl⟩ := inv_bool ht h
    exact ⟨[.bool b], ⟨b, rfl⟩, rep_single (.bool b)⟩

theorem covers_int {P : Program} {n : Nat} {t : TypeId} {k : IntKind} (ht : P.underlying t = some (.int k)) : Covers P n t fun xs => ∃ i, xs = [.int k i] ∧ k.min ≤ i ∧ i ≤ k.max := fun H enc W sp held cs d ps h => by
  cases n with
  | zero => simp [DataW.trod] at h
  | succ n =>
    obtain ⟨i, rfl, hw⟩ := inv_int ht h
    refine ⟨[.int k i], ⟨i, rfl, ?_⟩, rep_single (.int k i)⟩
    simpa [Lit.wf] using hw

theorem covers_str {P : Program} {n : Nat} {t : TypeId} (ht : P.underlying t = some .string) : Covers P n t fun xs => ∃ l : List UInt8, xs = [.str l] ∧ l.length ≤ maxLen := fun H enc W sp held cs d ps h => by
  cases n with
  | zero => simp [DataW.trod] at h
  | succ n =>
    obtain ⟨b, rfl, hw⟩ := inv_str ht h
    refine ⟨[.str b.data.toList], ⟨b.data.toList, rfl, ?_⟩, rep_single (.str b)⟩
    rw [Array.length_toList]; exact hw

theorem mapM_get {α β : Type} {f : α → Option β} : ∀ {l : List α} {r : List β}, l.mapM f = some r → r.length = l.length ∧ ∀ k (h : k < l.length) (h' : k < r.length), f l[k] = some r[k]
  | [], r, h => by simp at h; subst h; exact ⟨rfl, fun k h => absurd h (by simp)⟩
  | x :: l, r, h => by
    simp only [List.mapM_cons, Option.bind_eq_bind, Option.bind_eq_some_iff] at h
    obtain ⟨y, hy, ys, hys, h⟩ := h
    cases h
    obtain ⟨h1, h2⟩ := mapM_get hys
    refine ⟨by simp [h1], fun k hk hk' => ?_⟩
    cases k with
    | zero => exact hy
    | succ k => exact h2 k _ _

theorem cells_get {w : World} {a : Addr} {n : Nat} {cs : List Value} (h : w.cells? 0 a n = some cs) : cs.length = n ∧ ∀ k (hk : k < cs.length), w.cell? (a.add k) = some cs[k] := by
  unfold World.cells? at h
  rw [if_pos (Nat.zero_le _)] at h
  obtain ⟨h1, h2⟩ := mapM_get h
  refine ⟨by simpa using h1, fun k hk => ?_⟩
  have := h2 k (by rw [← h1]; exact hk) hk
  simpa using this

theorem spot_of_cell {w : World} {a : Addr} {v : Value} (h : w.cell? a = some v) : a.spot = none := by
  unfold World.cell? at h
  split at h
  · split at h
    · cases h
    · rename_i hs; simpa using hs
  · cases h

theorem covers_slice {P : Program} {n : Nat} {t e : TypeId} {sz : Nat} {S : List V → Prop} (mk : List V → V) (ht : P.underlying t = some (.slice e)) (hc : P.cellsOf e = sz) (hsz : 0 < sz) (he : Covers P n e S)
    (hmk : ∀ xs, S xs → (mk xs).cells = xs) :
    Covers P (n + 1) t fun xs => ∃ ys : List V, xs = [.list ys] ∧ (∀ y ∈ ys, ∃ zs, S zs ∧ y = mk zs) ∧ ys.length ≤ maxLen := fun H enc W sp held cs d ps h => by
  rcases inv_slice ht h with rfl | ⟨a, len, cap, elems, rfl, hb1, hb2, hel⟩
  · exact ⟨[.list []], ⟨[], rfl, fun y hy => absurd hy (by simp), Nat.zero_le _⟩, rep_single (.empty none 0)⟩
  · rw [hc] at hel
    obtain ⟨h1, h2⟩ := mapM_get hel
    simp only [List.length_range] at h1 h2
    have key : ∀ i, i < len → ∃ zs, S zs ∧ zs.length = sz ∧ ∀ k (hk : k < zs.length), ∃ v, W.cell? ((a.add (i * sz)).add k) = some v ∧ RepV (memC W) v zs[k] := by
      intro i hi
      have h3 := h2 i hi (by omega)
      simp only [List.getElem_range, Option.bind_eq_some_iff] at h3
      obtain ⟨ccs, hccs, htr⟩ := h3
      obtain ⟨g1, g2⟩ := cells_get hccs
      obtain ⟨zs, s1, s2, s3⟩ := he H enc W sp held ccs _ _ htr
      refine ⟨zs, s1, by omega, fun k hk => ⟨ccs[k]'(by omega), g2 k (by omega), ?_⟩⟩
      have := s3 k hk
      have hk' : k < ccs.length := by omega
      simpa [List.getD, List.getElem?_eq_getElem hk'] using this
    by_cases hl : len = 0
    · subst hl
      exact ⟨[.list []], ⟨[], rfl, fun y hy => absurd hy (by simp), Nat.zero_le _⟩, rep_single (.empty _ _)⟩
    · have ha : a = ⟨a.block, a.off, none⟩ := by
        obtain ⟨zs, _, hz, hk⟩ := key 0 (by omega)
        obtain ⟨v, hv, _⟩ := hk 0 (by omega)
        have : (a.add (0 * sz)).add 0 = a := by simp [Addr.add]
        rw [this] at hv
        have := spot_of_cell hv
        cases a; simp at this; subst this; rfl
      have key' : ∀ i : Nat, ∃ zs : List V, i < len → (S zs ∧ zs.length = sz ∧ ∀ k (hk : k < zs.length), ∃ v, W.cell? ((a.add (i * sz)).add k) = some v ∧ RepV (memC W) v zs[k]) := fun i => by
        by_cases hi : i < len
        · obtain ⟨zs, h⟩ := key i hi; exact ⟨zs, fun _ => h⟩
        · exact ⟨[], fun h => absurd h hi⟩
      obtain ⟨zs, hzs⟩ := Classical.skolem.mp key'
      have hadd : ∀ i k, (a.add (i * sz)).add k = ⟨a.block, a.off + i * sz + k, none⟩ := fun i k => by
        rw [ha, addr_add, addr_add]
      refine ⟨[.list ((List.range len).map fun i => mk (zs i))], ⟨_, rfl, fun y hy => ?_, by simp; omega⟩, rep_single ?_⟩
      · obtain ⟨i, hi, rfl⟩ := List.mem_map.mp hy
        exact ⟨zs i, (hzs i (by simpa using hi)).1, rfl⟩
      · have hlen : ((List.range len).map fun i => mk (zs i)).length = len := by simp
        have hcell : ∀ i (hi : i < len), (((List.range len).map fun i => mk (zs i))[i]'(by rw [hlen]; exact hi)).cells = zs i := fun i hi => by
          simp only [List.getElem_map, List.getElem_range]
          exact hmk _ (hzs i hi).1
        have := RepV.list (C := memC W) a.block a.off cap sz ((List.range len).map fun i => mk (zs i)) (fun i k => (W.cell? ⟨a.block, a.off + i * sz + k, none⟩).getD undef) (by rw [hlen]; exact hb1)
          (fun i hi => by rw [hcell i (by omega)]; exact (hzs i (by omega)).2.1)
          (fun i k hi hk => by
            obtain ⟨v, hv, _⟩ := (hzs i (by omega)).2.2 k (by rw [(hzs i (by omega)).2.1]; exact hk)
            rw [hadd] at hv
            show W.cell? _ = _
            rw [hv]; rfl)
          (fun i k hi hk => by
            have hi' : i < len := by omega
            have hk' : k < (zs i).length := by rw [hcell i hi'] at hk; exact hk
            obtain ⟨v, hv, hr⟩ := (hzs i hi').2.2 k hk'
            rw [hadd] at hv
            simp only [hv, Option.getD_some]
            have e : (((List.range len).map fun i => mk (zs i))[i]).cells[k] = (zs i)[k] := by simp only [hcell i hi']
            rw [e]; exact hr)
        rw [hlen, ← ha] at this
        exact this

/-- Data one behind the other. -/
def Cat : List (List V → Prop) → List V → Prop
  | [], xs => xs = []
  | S :: Ss, xs => ∃ ys zs, xs = ys ++ zs ∧ S ys ∧ Cat Ss zs

/-- Fields that lie one behind the other, with what covers each. -/
def FieldsOk (P : Program) (n : Nat) : List Field → Nat → Nat → List (List V → Prop) → Prop
  | [], off, tot, [] => off = tot
  | f :: fs, off, tot, S :: Ss => f.offset = off ∧ Covers P n f.type S ∧ FieldsOk P n fs (off + P.cellsOf f.type) tot Ss
  | _, _, _, _ => False

theorem fieldsOk_le {P : Program} {n : Nat} : ∀ {fs : List Field} {off tot : Nat} {Ss : List (List V → Prop)}, FieldsOk P n fs off tot Ss → off ≤ tot
  | [], off, tot, [], h => Nat.le_of_eq h
  | f :: fs, off, tot, S :: Ss, h => Nat.le_trans (Nat.le_add_right _ _) (fieldsOk_le h.2.2)

theorem covers_fields {P : Program} {n : Nat} {H : Type} {enc : TypeId × Value → H} {W : World} {sp : Nat → Bool} {held : Bool} {cs : List Value} : ∀ {fs : List Field} {off tot : Nat} {Ss : List (List V → Prop)} {r : List (DataW H × List MemPlace)}, cs.length = tot → FieldsOk P n fs off tot Ss →
    (fs.mapM fun f => DataW.trod enc P W 0 sp held n f.type ((cs.drop f.offset).take (P.cellsOf f.type))) = some r →
    ∃ xs, Cat Ss xs ∧ xs.length = tot - off ∧ ∀ k (hk : k < xs.length), RepV (memC W) (cs.getD (off + k) undef) xs[k]
  | [], off, tot, [], r, hl, h, hm => by
    have : off = tot := h
    exact ⟨[], rfl, by simp; omega, fun k hk => absurd hk (by simp)⟩
  | f :: fs, off, tot, S :: Ss, r, hl, h, hm => by
    obtain ⟨h1, h2, h3⟩ := h
    simp only [List.mapM_cons, Option.bind_eq_bind, Option.bind_eq_some_iff] at hm
    obtain ⟨y, hy, ys, hys, _⟩ := hm
    obtain ⟨xs, a1, a2, a3⟩ := h2 H enc W sp held _ _ _ hy
    obtain ⟨zs, b1, b2, b3⟩ := covers_fields hl h3 hys
    have hle := fieldsOk_le h3
    rw [h1, List.length_take, List.length_drop] at a2
    have hxl : xs.length = P.cellsOf f.type := by omega
    refine ⟨xs ++ zs, ⟨xs, zs, rfl, a1, b1⟩, by simp; omega, fun k hk => ?_⟩
    by_cases hlt : k < xs.length
    · rw [List.getElem_append_left hlt]
      have := a3 k hlt
      rw [h1] at this
      have e : ((cs.drop off).take (P.cellsOf f.type)).getD k undef = cs.getD (off + k) undef := by
        simp only [List.getD]
        rw [List.getElem?_take_of_lt (by omega), List.getElem?_drop]
      rw [e] at this; exact this
    · rw [List.getElem_append_right (by omega)]
      have := b3 (k - xs.length) (by simp at hk; omega)
      rw [show off + P.cellsOf f.type + (k - xs.length) = off + k by omega] at this
      exact this

theorem covers_struct {P : Program} {n : Nat} {t : TypeId} {fs : Array Field} {Ss : List (List V → Prop)} (ht : P.underlying t = some (.struct fs)) (hf : FieldsOk P n fs.toList 0 (P.cellsOf t) Ss) : Covers P (n + 1) t (Cat Ss) := fun H enc W sp held cs d ps h => by
  have key : cs.length = P.cellsOf t ∧ ∃ r, (fs.toList.mapM fun f => DataW.trod enc P W 0 sp held n f.type ((cs.drop f.offset).take (P.cellsOf f.type))) = some r := by
    simp only [DataW.trod, ht] at h
    split at h
    · rename_i hl
      simp only [Option.map_eq_some_iff] at h
      obtain ⟨r, hr, _⟩ := h
      exact ⟨hl, r, hr⟩
    · cases h
  obtain ⟨hl, r, hr⟩ := key
  obtain ⟨xs, h1, h2, h3⟩ := covers_fields hl hf hr
  refine ⟨xs, h1, by omega, fun k hk => ?_⟩
  have := h3 k hk
  rwa [Nat.zero_add] at this

/-- An argument. -/
theorem covers_arg {P : Program} {t : TypeId} {S : List V → Prop} (hS : ∀ n, Covers P n t S) {H : Type} {enc : TypeId × Value → H} {W : World} {sp : Nat → Bool} {held : Bool} {v : Value} {d : DataW H} {ps : List MemPlace}
    (h : DataW.Trod enc P W 0 sp held t v d ps) : ∃ xs, S xs ∧ v.cells.size = xs.length ∧ ∀ k (hk : k < xs.length), RepV (memC W) (v.cells.getD k undef) xs[k] := by
  obtain ⟨n, hn⟩ := h
  obtain ⟨xs, h1, h2, h3⟩ := hS n H enc W sp held _ _ _ hn
  refine ⟨xs, h1, by simpa using h2, fun k hk => ?_⟩
  have := h3 k hk
  simpa [List.getD, Array.getElem?_toList] using this

/-- A value that is no struct: its one datum. -/
theorem covers_arg1 {P : Program} {t : TypeId} {S : List V → Prop} (hS : ∀ n, Covers P n t S) {H : Type} {enc : TypeId × Value → H} {W : World} {sp : Nat → Bool} {held : Bool} {v : Value} {d : DataW H} {ps : List MemPlace}
    (h : DataW.Trod enc P W 0 sp held t v d ps) (hv : ∀ cs, v ≠ .agg cs) : ∃ xs, S xs ∧ ∀ x, xs = [x] → RepV (memC W) v x := by
  obtain ⟨xs, h1, h2, h3⟩ := covers_arg hS h
  have hc : v.cells = #[v] := by cases v <;> first | rfl | exact absurd rfl (hv _)
  rw [hc] at h2 h3
  refine ⟨xs, h1, fun x hx => ?_⟩
  subst hx
  exact h3 0 (by simp)

/-- A struct by value. -/
theorem covers_argn {P : Program} {t : TypeId} {S : List V → Prop} (hS : ∀ n, Covers P n t S) {H : Type} {enc : TypeId × Value → H} {W : World} {sp : Nat → Bool} {held : Bool} {v : Value} {d : DataW H} {ps : List MemPlace}
    (h : DataW.Trod enc P W 0 sp held t v d ps) (hv : ∃ cs, v = .agg cs) : ∃ xs, S xs ∧ RepV (memC W) v (.agg xs) := by
  obtain ⟨xs, h1, h2, h3⟩ := covers_arg hS h
  obtain ⟨cs, rfl⟩ := hv
  exact ⟨xs, h1, .agg cs xs h2 h3⟩

end Go.Proofs.YtlolmemiedhhhaaDoor.SL

/- The program logic, eleventh part: forms for the printer, conversions. -/
namespace Go.Proofs.YtlolmemiedhhhaaDoor.SL
set_option linter.unusedVariables false
set_option linter.unusedSimpArgs false
open Go Go.RowKit

/-- A state that may be weakened into one of this form. -/
def Into (I : Nat → Slots → Defs → List Chunk → Prop) (n : Nat) (s : Slots) (δ : Defs) (σ : List Chunk) : Prop := ∃ s' σ', SWk s s' ∧ Sub σ' σ ∧ I n s' δ σ'

/-- Data of so many cells each, none a struct within a struct. -/
def Sized (sz : Nat) (xs : List V) : Prop := ∀ x ∈ xs, x.cells.length = sz ∧ x.flat = true

theorem sized_nil {sz : Nat} : Sized sz [] := fun _ h => absurd h (by simp)
theorem sized_cons {sz : Nat} {x : V} {xs : List V} (h1 : x.cells.length = sz) (h2 : x.flat = true) (h : Sized sz xs) : Sized sz (x :: xs) := fun y hy => by
  rcases List.mem_cons.mp hy with rfl | hy
  · exact ⟨h1, h2⟩
  · exact h y hy
theorem sized_append {sz : Nat} {xs ys : List V} (h1 : Sized sz xs) (h2 : Sized sz ys) : Sized sz (xs ++ ys) := fun y hy => by
  rcases List.mem_append.mp hy with hy | hy
  · exact h1 y hy
  · exact h2 y hy
theorem sized_map {α : Type} {sz : Nat} {l : List α} {f : α → V} (h : ∀ a, (f a).cells.length = sz ∧ (f a).flat = true) : Sized sz (l.map f) := fun y hy => by
  obtain ⟨a, _, rfl⟩ := List.mem_map.mp hy
  exact h a

/-- The same, as it is found. -/
inductive SzI (sz : Nat) : List V → Prop
  | nil : SzI sz []
  | cons {x : V} {xs : List V} (h1 : x.cells.length = sz) (h2 : x.flat = true) (h : SzI sz xs) : SzI sz (x :: xs)
  | map {α : Type} {l : List α} {f : α → V} (h1 : (fun a => (f a).cells.length) = fun _ => sz) (h2 : (fun a => (f a).flat) = fun _ => true) : SzI sz (l.map f)
  | app {xs ys : List V} (h1 : SzI sz xs) (h2 : SzI sz ys) : SzI sz (xs ++ ys)

theorem SzI.get {sz : Nat} {xs : List V} (h : SzI sz xs) : Sized sz xs := by
  induction h with
  | nil => exact sized_nil
  | cons h1 h2 _ ih => exact sized_cons h1 h2 ih
  | map h1 h2 => exact sized_map fun a => ⟨congrFun h1 a, congrFun h2 a⟩
  | app _ _ ih1 ih2 => exact sized_append ih1 ih2

section rules
variable {P : Program} {ops : Array Oper} {Q : Post} {s : Slots} {δ : Defs} {σ : List Chunk} {o : Oper} {rest : List Oper}

theorem sw_loopw {c : Code} (I : Nat → Slots → Defs → List Chunk → Prop) (h₀ : ∃ n, Into I n s δ σ)
    (round : ∀ n s δ σ, I n s δ σ → SW P c (thenQ (fun s' δ' σ' => ∃ m, m < n ∧ Into I m s' δ' σ') Q) s δ σ) : SW P (.loop c) Q s δ σ := by
  obtain ⟨n, h₀⟩ := h₀
  refine sw_loop (Into I) n h₀ fun n s δ σ hI => ?_
  obtain ⟨s', σ', h1, h2, h3⟩ := hI
  exact sw_weak h1 (sw_less h2 (round n s' δ σ' h3))

/-- A guard: both ways. -/
theorem sl_guard_s {j : Nat} {want b : Bool} {t : Tmp} (hg : o.guard = some (j, want)) (hj : (ops[j]?).bind (·.dst) = some t) (hb : evalO s (.tmp t) = .val (.bool b))
    (hy : b = want → SL P ops ({ o with guard := none } :: rest) Q s δ σ) (hn : b = !want → SL P ops rest Q (sput s o.dst (.tup [])) δ σ) : SL P ops (o :: rest) Q s δ σ :=
  sl_guard hg hj hb hy fun h => hn (by cases b <;> cases want <;> first | rfl | exact absurd rfl h)

theorem sl_app {t u e : TypeId} {x y : Operand} {v : Value} {xs ys zs : List V} {sz bytes : Nat} (hg : o.guard = none) (ho : o.op = .call { callee := .builtin .append, args := #[x, y], argTypes := #[t, u] })
    (hx : evalO s x = .own v xs) (hy : (evalO s y).asList = some ys) (ht : P.underlying t = some (.slice e)) (hu : ∃ d, P.underlying u = some d ∧ isInt d = false)
    (he : elOf P e = some (sz, bytes)) (hxs : Sized sz xs) (hys : Sized sz ys) (hfit : (xs.length + ys.length) * bytes ≤ 140737488355328) (hz : xs ++ ys = zs)
    (c : ∀ v', SL P ops rest Q (sput s o.dst (.own v' zs)) δ (.spare v' sz :: σ)) : SL P ops (o :: rest) Q s δ (.spare v sz :: σ) := by
  subst hz
  exact sl_append hg ho hx hy ht hu he (fun x hx => (hxs x hx).1) hys hfit c

theorem sl_app_str {t u e : TypeId} {x y : Operand} {v : Value} {xs zs : List V} {l : List UInt8} {bytes : Nat} (hg : o.guard = none) (ho : o.op = .call { callee := .builtin .append, args := #[x, y], argTypes := #[t, u] })
    (hx : evalO s x = .own v xs) (hy : evalO s y = .val (.str l)) (ht : P.underlying t = some (.slice e)) (hu : P.underlying u = some .string)
    (he : elOf P e = some (1, bytes)) (hxs : Sized 1 xs) (hfit : (xs.length + l.length) * bytes ≤ 140737488355328) (hz : xs ++ l.map byteV = zs)
    (c : ∀ v', SL P ops rest Q (sput s o.dst (.own v' zs)) δ (.spare v' 1 :: σ)) : SL P ops (o :: rest) Q s δ (.spare v 1 :: σ) := by
  subst hz
  exact sl_append_str hg ho hx hy ht hu he (fun x hx => (hxs x hx).1) hfit c

/-- The same datum in other words. -/
theorem sl_set (t : Nat) (d' : D) (h : s.get t = d') (c : SL P ops rest Q (sput s (some t) d') δ σ) : SL P ops rest Q s δ σ := fun G a w hi hr =>
  c G a w hi (hr.recast t fun v r => h ▸ r)

theorem sw_set {c : Code} (t : Nat) (d' : D) (h : s.get t = d') (k : SW P c Q (sput s (some t) d') δ σ) : SW P c Q s δ σ := fun G a w hi hr =>
  k G a w hi (hr.recast t fun v r => h ▸ r)

theorem wrap_i64 {n : Int} (h0 : -9223372036854775808 ≤ n) (h1 : n ≤ 9223372036854775807) : IntKind.i64.wrap n = n := by
  unfold IntKind.wrap
  have e1 : (2 : Int) ^ IntKind.i64.bits = 18446744073709551616 := by decide
  have e2 : (2 : Int) ^ (IntKind.i64.bits - 1) = 9223372036854775808 := by decide
  rw [e1, e2]
  by_cases h : n % 18446744073709551616 ≥ 9223372036854775808
  · have : (IntKind.i64.signed && decide (n % 18446744073709551616 ≥ 9223372036854775808)) = true := by simp [IntKind.signed]; omega
    simp only [this, if_true]; omega
  · have : (IntKind.i64.signed && decide (n % 18446744073709551616 ≥ 9223372036854775808)) = false := by simp [IntKind.signed]; omega
    simp only [this, Bool.false_eq_true, if_false]; omega

theorem wrap_u64 {n : Int} (h0 : 0 ≤ n) (h1 : n < 18446744073709551616) : IntKind.u64.wrap n = n := by
  unfold IntKind.wrap
  simp only [IntKind.bits, IntKind.signed, Bool.false_and, Bool.false_eq_true, if_false]
  omega

theorem wrap_u8 {n : Int} (h0 : 0 ≤ n) (h1 : n < 256) : IntKind.u8.wrap n = n := by
  unfold IntKind.wrap
  simp only [IntKind.bits, IntKind.signed, Bool.false_and, Bool.false_eq_true, if_false]
  omega

/-- A sum that stays within its kind. -/
theorem sl_add {t t' : TypeId} {x y : Operand} {m n : Int} (hg : o.guard = none) (ho : o.op = .binOp .add t x y t')
    (hx : evalO s x = .val (.int .i64 m)) (hy : evalO s y = .val (.int .i64 n)) (h : -9223372036854775808 ≤ m + n ∧ m + n ≤ 9223372036854775807)
    (c : SL P ops rest Q (sput s o.dst (.val (.int .i64 (m + n)))) δ σ) : SL P ops (o :: rest) Q s δ σ :=
  sl_bin hg ho hx hy (by simp only [binI]; rw [wrap_i64 h.1 h.2]) c

theorem sl_sub_ {t t' : TypeId} {x y : Operand} {m n : Int} (hg : o.guard = none) (ho : o.op = .binOp .sub t x y t')
    (hx : evalO s x = .val (.int .i64 m)) (hy : evalO s y = .val (.int .i64 n)) (h : -9223372036854775808 ≤ m - n ∧ m - n ≤ 9223372036854775807)
    (c : SL P ops rest Q (sput s o.dst (.val (.int .i64 (m - n)))) δ σ) : SL P ops (o :: rest) Q s δ σ :=
  sl_bin hg ho hx hy (by simp only [binI]; rw [wrap_i64 h.1 h.2]) c

/-- A counter's next. -/
theorem sl_inc {t t' : TypeId} {x y : Operand} {k : Nat} (hg : o.guard = none) (ho : o.op = .binOp .add t x y t')
    (hx : evalO s x = .val (.int .i64 (k : Int))) (hy : evalO s y = .val (.int .i64 1)) (h : k < 9223372036854775807)
    (c : SL P ops rest Q (sput s o.dst (.val (.int .i64 ((k + 1 : Nat) : Int)))) δ σ) : SL P ops (o :: rest) Q s δ σ :=
  sl_bin hg ho hx hy (by simp only [binI]; rw [wrap_i64 (by omega) (by omega)]; rfl) c

theorem map_congr_all {α : Type} {β : Type} {f g : α → β} (h : ∀ a, f a = g a) (l : List α) : l.map f = l.map g := List.map_congr_left fun a _ => h a

theorem bytes_of {C : Imm} {l : List UInt8} {vs : Nat → Value} (h : ∀ k y, ((l.map byteV).flatMap V.cells)[k]? = some y → RepV C (vs k) y) : ∀ k (hk : k < l.length), vs k = .int .u8 (l[k].toNat : Int) := by
  intro k hk
  have hf : (l.map byteV).flatMap V.cells = l.map byteV := (one_flat _ (by simp [List.all_eq_true, V.one, byteV])).1
  have := h k (byteV l[k]) (by rw [hf, List.getElem?_map, List.getElem?_eq_getElem hk]; rfl)
  generalize vs k = u at this ⊢
  cases this; rfl

theorem push_fold (l : List UInt8) : ∀ s : ByteArray, ((l.map fun b => (b.toNat : Int)).foldl (fun (r : ByteArray) n => r.push (UInt8.ofNat n.toNat)) s).data.toList = s.data.toList ++ l := by
  induction l with
  | nil => intro s; simp
  | cons b l ih =>
    intro s
    rw [List.map_cons, List.foldl_cons, ih]
    have : (s.push (UInt8.ofNat ((b.toNat : Int)).toNat)).data.toList = s.data.toList ++ [b] := by
      simp [ByteArray.push]
    rw [this, List.append_assoc]; rfl

/-- 'string(b)'. -/
theorem conv_bytes_str {G : Gh} {σ : List Chunk} {w : World} (hi : Inv G σ w) {t t' e : TypeId} {v : Value} {l : List UInt8} (r : RepV G.C v (.list (l.map byteV)))
    (ht : P.underlying t = some (.slice e)) (he : P.underlying e = some (.int .u8)) (ht' : P.underlying t' = some .string) :
    ∃ b : ByteArray, (convert t t' v).run P w = .ok (.string b) w ∧ b.data.toList = l := by
  obtain ⟨a, c, rfl, hc⟩ := rep_list_len r
  rw [run_convert_bytes_string w t t' e a _ c ht he ht']
  obtain ⟨_, h1, vs, h2, h3⟩ := cells_of_list r (sz := 1) (fun x hx => (byteV_cells l x hx).1)
  have hv := bytes_of h3
  simp only [List.length_map] at h2 hc ⊢
  cases a with
  | none =>
    have hl : l = [] := by
      by_cases h : l = []
      · exact h
      · obtain ⟨b, f, hb⟩ := h1 (by simpa using h); cases hb
    subst hl
    exact ⟨_, rfl, rfl⟩
  | some a =>
    have hload : (loadCells a l.length).run P w = .ok ((l.map fun b => (b.toNat : Int)).map (Value.int .u8)).toArray w := by
      have := run_loadCells (P := P) w a l.length vs (fun j hj => by
        obtain ⟨b, f, hb⟩ := h1 (by intro h; simp at h; subst h; simp at hj)
        cases hb
        rw [addr_add]
        exact hi.agree _ _ _ (h2 b f j rfl (by omega)))
      rw [this]
      congr 2
      apply List.ext_getElem
      · simp
      · intro k g1 g2
        have hk : k < l.length := by simpa using g1
        simp only [List.getElem_map, List.getElem_range]
        exact hv k hk
    refine ⟨_, run_bytesToString w a l.length c _ hload, ?_⟩
    rw [push_fold]; rfl

theorem sl_bytes_str {t t' e : TypeId} {x : Operand} {l : List UInt8} (hg : o.guard = none) (ho : o.op = .convert t t' x) (hx : (evalO s x).asList = some (l.map byteV))
    (ht : P.underlying t = some (.slice e)) (he : P.underlying e = some (.int .u8)) (ht' : P.underlying t' = some .string)
    (c : SL P ops rest Q (sput s o.dst (.val (.str l))) δ σ) : SL P ops (o :: rest) Q s δ σ :=
  sl_op hg fun G a w hi hr => by
    obtain ⟨b, h1, rfl⟩ := conv_bytes_str (P := P) hi (asList_rep (hr.eval x) hx) ht he ht'
    exact ⟨_, w, G, _, σ, by simp only [execOp, ho, Sem.run_bind, h1, Result.andThen_ok, Sem.run_pure], G.le_refl, hi, rep_bin (.str b), c⟩

theorem inv_kept_one {G : Gh} {K : Exacts} {w : World} (h : Kept G.C K w) : ∀ b o v, G.C b o = some v → w.cell? ⟨b, o, none⟩ = some v := h.1

theorem conv_bytes_str' {C : Imm} {v : Value} {l : List UInt8} {t t' e : TypeId} (r : RepV C v (.list (l.map byteV)))
    (ht : P.underlying t = some (.slice e)) (he : P.underlying e = some (.int .u8)) (ht' : P.underlying t' = some .string) :
    ∃ b : ByteArray, b.data.toList = l ∧ ∀ w : World, (∀ b o v, C b o = some v → w.cell? ⟨b, o, none⟩ = some v) → (convert t t' v).run P w = .ok (.string b) w := by
  obtain ⟨a, c, rfl, hc⟩ := rep_list_len r
  obtain ⟨_, h1, vs, h2, h3⟩ := cells_of_list r (sz := 1) (fun x hx => (byteV_cells l x hx).1)
  have hv := bytes_of h3
  simp only [List.length_map] at h2 hc ⊢
  cases a with
  | none =>
    have hl : l = [] := by
      by_cases h : l = []
      · exact h
      · obtain ⟨b, f, hb⟩ := h1 (by simpa using h); cases hb
    subst hl
    exact ⟨.empty, rfl, fun w _ => by rw [run_convert_bytes_string w t t' e none _ c ht he ht']; rfl⟩
  | some a =>
    refine ⟨(l.map fun b => (b.toNat : Int)).foldl (fun r n => r.push (UInt8.ofNat n.toNat)) ByteArray.empty, by rw [push_fold]; rfl, fun w hw => ?_⟩
    rw [run_convert_bytes_string w t t' e _ _ c ht he ht']
    refine run_bytesToString w a l.length c _ ?_
    have := run_loadCells (P := P) w a l.length vs (fun j hj => by
      obtain ⟨b, f, hb⟩ := h1 (by intro h; simp at h; subst h; simp at hj)
      cases hb
      rw [addr_add]
      exact hw _ _ _ (h2 b f j rfl (by omega)))
    rw [this]
    congr 2
    apply List.ext_getElem
    · simp
    · intro k g1 g2
      have hk : k < l.length := by simpa using g1
      simp only [List.getElem_map, List.getElem_range]
      exact hv k hk

theorem pu_bytes_str {K : Exacts} {t t' e : TypeId} {x : Operand} {l : List UInt8} (ho : o.op = .convert t t' x) (hx : (evalO s x).asList = some (l.map byteV))
    (ht : P.underlying t = some (.slice e)) (he : P.underlying e = some (.int .u8)) (ht' : P.underlying t' = some .string) : PureOp P K s δ o (.val (.str l)) := fun G a hr => by
  obtain ⟨b, rfl, h1⟩ := conv_bytes_str' (P := P) (asList_rep (hr.eval x) hx) ht he ht'
  exact ⟨_, rep_bin (.str b), fun w hk => by simp only [execOp, ho, Sem.run_bind, h1 w hk.1, Result.andThen_ok, Sem.run_pure]⟩

/-- Greater of two numbers. -/
theorem sl_max {x y : Operand} {at' : Array TypeId} {k : IntKind} {m n : Int} (hg : o.guard = none) (ho : o.op = .call { callee := .builtin .max, args := #[x, y], argTypes := at' })
    (hx : evalO s x = .val (.int k m)) (hy : evalO s y = .val (.int k n)) (c : SL P ops rest Q (sput s o.dst (.val (.int k (if n > m then n else m)))) δ σ) : SL P ops (o :: rest) Q s δ σ :=
  sl_pure hg (fun G a w hi hr => by
    have h1 := hr.eval x; rw [hx] at h1; have h1 := rep_int h1
    have h2 := hr.eval y; rw [hy] at h2; have h2 := rep_int h2
    refine ⟨_, run_call_builtin ho ?_, rep_bin (.int _ _)⟩
    simp [builtin, Builtin.max_, h1, h2, Builtin.max2]) c

theorem pu_max {K : Exacts} {x y : Operand} {at' : Array TypeId} {k : IntKind} {m n : Int} (ho : o.op = .call { callee := .builtin .max, args := #[x, y], argTypes := at' })
    (hx : evalO s x = .val (.int k m)) (hy : evalO s y = .val (.int k n)) : PureOp P K s δ o (.val (.int k (if n > m then n else m))) := fun G a hr => by
  have h1 := hr.eval x; rw [hx] at h1; have h1 := rep_int h1
  have h2 := hr.eval y; rw [hy] at h2; have h2 := rep_int h2
  refine ⟨_, rep_bin (.int _ _), fun w _ => run_call_builtin ho ?_⟩
  simp [builtin, Builtin.max_, h1, h2, Builtin.max2]

theorem sl_min {x y : Operand} {at' : Array TypeId} {k : IntKind} {m n : Int} (hg : o.guard = none) (ho : o.op = .call { callee := .builtin .min, args := #[x, y], argTypes := at' })
    (hx : evalO s x = .val (.int k m)) (hy : evalO s y = .val (.int k n)) (c : SL P ops rest Q (sput s o.dst (.val (.int k (if n < m then n else m)))) δ σ) : SL P ops (o :: rest) Q s δ σ :=
  sl_pure hg (fun G a w hi hr => by
    have h1 := hr.eval x; rw [hx] at h1; have h1 := rep_int h1
    have h2 := hr.eval y; rw [hy] at h2; have h2 := rep_int h2
    refine ⟨_, run_call_builtin ho ?_, rep_bin (.int _ _)⟩
    simp [builtin, Builtin.min_, h1, h2, Builtin.min2]) c

theorem sa_case {fuel : Nat} {listed : Array Bool} {K : Exacts} (b : Bool) (ht : b = true → SA P ops fuel listed Q s δ σ K) (hf : b = false → SA P ops fuel listed Q s δ σ K) : SA P ops fuel listed Q s δ σ K := by
  cases b
  · exact hf rfl
  · exact ht rfl

/-- A call of a function value. -/
theorem sl_callv {x : Operand} {l : List Operand} {at' : Array TypeId} {f : FuncId} {caps ds : List D} {σ' : List Chunk} {R : D → List Chunk → Prop} {Rp : List PanicEntry → List Chunk → Prop} (hg : o.guard = none)
    (ho : o.op = .call { callee := .value x, args := l.toArray, argTypes := at' }) (hx : evalO s x = .func f caps) (hc : callable P f = true)
    (hs : FSpecP P f ds σ' R Rp) (hw : Weaks (l.map (evalO s) ++ caps) ds) (hp : Sub σ' σ)
    (k : ∀ d σ', R d σ' → SL P ops rest Q (sput s o.dst d) δ σ') (kp : ∀ ch σ', Rp ch σ' → Q (.panic ch) s δ σ') : SL P ops (o :: rest) Q s δ σ :=
  sl_less hp (sl_call hg ho hx hc hw hs k kp)

theorem pu_eq_nil {K : Exacts} {t t' e : TypeId} {x : Operand} {b : Bool} (ho : o.op = .binOp .eql t x (.const (.pointer none)) t') (hx : (evalO s x).isNil = some b)
    (ht : P.underlying t = some (.pointer e)) : PureOp P K s δ o (.val (.bool b)) := fun G a hr => by
  obtain ⟨ad, h1, h2⟩ := isNil_rep (hr.eval x) hx
  exact ⟨_, rep_bin (.bool b), fun w _ => run_execBin ho (by rw [h1]; exact run_guard_ptr ..) (by rw [h1, ← h2]; exact (run_eql_ptr_nil ht ad).1)⟩

theorem pu_index_str {K : Exacts} {t : TypeId} {x i : Operand} {k : IntKind} {n : Int} {l : List UInt8} {u : UInt8} (ho : o.op = .index t x i)
    (hx : evalO s x = .val (.str l)) (hn : evalO s i = .val (.int k n)) (ht : P.underlying t = some .string) (h0 : 0 ≤ n) (hu : l[n.toNat]? = some u) : PureOp P K s δ o (.val (.int .u8 (u.toNat : Int))) := fun G a hr => by
  obtain ⟨hlt, rfl⟩ := List.getElem?_eq_some_iff.mp hu
  have h1 := hr.eval x; rw [hx] at h1; obtain ⟨t1, e1, rfl⟩ := rep_str h1
  have h2 := hr.eval i; rw [hn] at h2; have e2 := rep_int h2
  refine ⟨_, rep_bin (.int _ _), fun w _ => ?_⟩
  have hsz : n.toNat < t1.size := by simp only [Array.length_toList] at hlt; exact hlt
  have hget : t1[n.toNat]? = some (t1.data.toList[n.toNat]) := by
    rw [getElem?_pos t1 n.toNat hsz]; rfl
  simp only [execOp, ho, e1, e2, Instr.index, asIntOf, Sem.run_bind, Sem.run_pure, Result.andThen_ok, run_under ht, h0, if_true, hget]

/-! ### Rules that keep a slot's own term -/

noncomputable def opd (s : Slots) : Operand → Option D
  | .tmp t => cond (Nat.blt t s.n) (look s.l t) none
  | .const v => some (ofConst v)
  | .func f => some (.func f [])
  | .global _ => none

theorem opd_eval {x : Operand} {d : D} (h : opd s x = some d) : evalO s x = d := by
  cases x <;> simp only [opd, Option.some.injEq, reduceCtorEq] at h
  · rename_i t
    by_cases hlt : t < s.n
    · rw [evalO_lt hlt]
      have : Nat.blt t s.n = true := by simpa [Nat.blt_eq] using hlt
      rw [this] at h
      show orJunk (look s.l t) = d
      have h : look s.l t = some d := h
      rw [h]; rfl
    · have : Nat.blt t s.n = false := by cases e : Nat.blt t s.n with | false => rfl | true => exact absurd (Nat.blt_eq.mp e) hlt
      rw [this] at h; cases h
  · exact h
  · exact h

inductive OpDs (s : Slots) : List (Nat × Operand) → List (Nat × D) → Prop
  | nil : OpDs s [] []
  | cons {i : Nat} {x : Operand} {d : D} {ps : List (Nat × Operand)} {ds : List (Nat × D)} (h : opd s x = some d) (hs : OpDs s ps ds) : OpDs s ((i, x) :: ps) ((i, d) :: ds)

theorem OpDs.eq {parts : List (Nat × Operand)} {pds : List (Nat × D)} (h : OpDs s parts pds) : (parts.map fun p => (p.1, evalO s p.2)) = pds := by
  induction h with
  | nil => rfl
  | cons h _ ih => rw [List.map_cons, ih, opd_eval h]

inductive OpLs (s : Slots) : List Operand → List D → Prop
  | nil : OpLs s [] []
  | cons {x : Operand} {d : D} {ps : List Operand} {ds : List D} (h : opd s x = some d) (hs : OpLs s ps ds) : OpLs s (x :: ps) (d :: ds)

theorem OpLs.eq {l : List Operand} {ds : List D} (h : OpLs s l ds) : l.map (evalO s) = ds := by
  induction h with
  | nil => rfl
  | cons h _ ih => rw [List.map_cons, ih, opd_eval h]

theorem sl_mv {x : Operand} {d : D} (hg : o.guard = none) (ho : o.op = .move x) (hd : opd s x = some d) (k : SL P ops rest Q (sput s o.dst d) δ σ) : SL P ops (o :: rest) Q s δ σ :=
  sl_move hg ho (by rw [opd_eval hd]; exact k)
theorem sl_as {x : Operand} {d : D} (hg : o.guard = none) (ho : o.op = .assign x) (hd : opd s x = some d) (k : SL P ops rest Q (sput s o.dst d) δ σ) : SL P ops (o :: rest) Q s δ σ :=
  sl_assign hg ho (by rw [opd_eval hd]; exact k)
theorem sl_pk_t {cd x y : Operand} {b : Bool} {d : D} (hg : o.guard = none) (ho : o.op = .pick cd x y) (hb : evalO s cd = .val (.bool b)) (h : b = true) (hd : opd s x = some d)
    (k : SL P ops rest Q (sput s o.dst d) δ σ) : SL P ops (o :: rest) Q s δ σ := sl_pick_t hg ho hb h (by rw [opd_eval hd]; exact k)
theorem sl_pk_f {cd x y : Operand} {b : Bool} {d : D} (hg : o.guard = none) (ho : o.op = .pick cd x y) (hb : evalO s cd = .val (.bool b)) (h : b = false) (hd : opd s y = some d)
    (k : SL P ops rest Q (sput s o.dst d) δ σ) : SL P ops (o :: rest) Q s δ σ := sl_pick_f hg ho hb h (by rw [opd_eval hd]; exact k)
theorem sl_nc {x : Operand} {d : D} (hg : o.guard = none) (ho : o.op = .nilCheck x) (hd : opd s x = some d) (hx : d.sure = true)
    (c : SL P ops rest Q (sput s o.dst d) δ σ) : SL P ops (o :: rest) Q s δ σ := sl_nilCheck hg ho (by rw [opd_eval hd]; exact hx) (by rw [opd_eval hd]; exact c)
theorem sl_bx {t : TypeId} {x : Operand} {d : D} (hg : o.guard = none) (ho : o.op = .box t x) (hd : opd s x = some d) (hk : d.known = true)
    (c : ∀ b, SL P ops rest Q (sput s o.dst (.ptr b 0)) δ (.blk b d.cells :: σ)) : SL P ops (o :: rest) Q s δ σ :=
  sl_box hg ho (by rw [opd_eval hd]; exact hk) (fun b => by rw [opd_eval hd]; exact c b)
theorem sl_bx_imm {t : TypeId} {x : Operand} {d : D} {xs : List V} (hg : o.guard = none) (ho : o.op = .box t x) (hd : opd s x = some d) (hk : d.known = true) (hx : toVs d.cells = some xs)
    (c : SL P ops rest Q (sput s o.dst (.rp xs)) δ σ) : SL P ops (o :: rest) Q s δ σ :=
  sl_box_imm hg ho (by rw [opd_eval hd]; exact hk) (by rw [opd_eval hd]; exact hx) c
theorem sl_st {t : TypeId} {x y : Operand} {b f n : Nat} {ds : List D} {d : D} (hg : o.guard = none) (ho : o.op = .store t x y) (hx : evalO s x = .ptr b f) (hd : opd s y = some d)
    (hn : szOf P t = some n) (hk : d.known = true) (hc : d.cells.all D.cell = true) (hl : d.cells.length = n) (hle : f + n ≤ ds.length)
    (c : SL P ops rest Q (sput s o.dst .junk) δ (.blk b (putAt ds f d.cells) :: σ)) : SL P ops (o :: rest) Q s δ (.blk b ds :: σ) := by
  have e := opd_eval hd
  subst e
  exact sl_store0 hg ho hx hn hk (fun d hd => List.all_eq_true.mp hc d hd) hl hle c
theorem sl_stp {t : TypeId} {x y : Operand} {b f n : Nat} {ds : List D} {d : D} {σ' : List Chunk} (hg : o.guard = none) (ho : o.op = .store t x y) (hx : evalO s x = .ptr b f) (hd : opd s y = some d)
    (hn : szOf P t = some n) (hk : d.known = true) (hc : d.cells.all D.cell = true) (hl : d.cells.length = n) (hp : Pick (.blk b ds) σ σ') (hle : f + n ≤ ds.length)
    (c : SL P ops rest Q (sput s o.dst .junk) δ (.blk b (putAt ds f d.cells) :: σ')) : SL P ops (o :: rest) Q s δ σ := sl_front hp (sl_st hg ho hx hd hn hk hc hl hle c)
theorem sl_bd {t : TypeId} {parts : List (Nat × Operand)} {pl : List (Nat × Nat)} {zs ds : List D} {pds : List (Nat × D)} (hg : o.guard = none) (ho : o.op = .build t parts.toArray)
    (hpd : OpDs s parts pds)
    (hp : buildInfo P t = some pl) (hz : zeroDs P t = some zs) (hf : fillD (fun i => pl[i]?) zs pds = some ds)
    (c : SL P ops rest Q (sput s o.dst (.agg ds)) δ σ) : SL P ops (o :: rest) Q s δ σ := by
  have hpd := hpd.eq
  subst hpd
  exact sl_build hg ho hp hz hf c
theorem sl_bs1 {t e : TypeId} {len : Nat} {parts : List (Nat × Operand)} {ds : List D} {xs : List V} {pds : List (Nat × D)} (hg : o.guard = none) (ho : o.op = .buildSlice t len parts.toArray)
    (hpd : OpDs s parts pds)
    (ht : P.underlying t = some (.slice e)) (hs : szOf P e = some 1) (hz : (zeroOf P e).isSome = true) (hlim : len * 1 ≤ 16777216)
    (hf : fillD (fun i => some (i * 1, 1)) (List.replicate (len * 1) .junk) pds = some ds) (hx : toVs ds = some xs)
    (hl : xs.length = len) (hxs : xs.all V.one = true)
    (c : SL P ops rest Q (sput s o.dst (.fix xs)) δ σ) : SL P ops (o :: rest) Q s δ σ := by
  have hpd := hpd.eq
  subst hpd
  exact sl_buildSlice1 hg ho ht hs hz hlim hf hx hl hxs c
theorem sl_bsn {t e : TypeId} {len sz : Nat} {parts : List (Nat × Operand)} {ds : List D} (xs : List V) {pds : List (Nat × D)} (hg : o.guard = none) (ho : o.op = .buildSlice t len parts.toArray)
    (hpd : OpDs s parts pds)
    (ht : P.underlying t = some (.slice e)) (hs : szOf P e = some sz) (hz : (zeroOf P e).isSome = true) (hlim : len * sz ≤ 16777216)
    (hf : fillD (fun i => some (i * sz, sz)) (List.replicate (len * sz) .junk) pds = some ds) (hx : toVs ds = some (xs.flatMap V.cells))
    (hl : xs.length = len) (hxs : Sized sz xs)
    (c : SL P ops rest Q (sput s o.dst (.fix xs)) δ σ) : SL P ops (o :: rest) Q s δ σ := by
  have hpd := hpd.eq
  subst hpd
  exact sl_buildSlice hg ho ht hs hz hlim hf hx hl (fun x h => (hxs x h).1) c
theorem sl_mf {f : FuncId} {l : List Operand} {ds : List D} (hg : o.guard = none) (ho : o.op = .makeFunc (.func f) #[] l.toArray) (hd : OpLs s l ds)
    (c : SL P ops rest Q (sput s o.dst (.func f ds)) δ σ) : SL P ops (o :: rest) Q s δ σ := by
  have hd := hd.eq
  subst hd
  exact sl_makeFunc hg ho c
theorem sl_mi {t : TypeId} {x : Operand} {d : TypeDesc} {dd : D} (hg : o.guard = none) (ho : o.op = .makeInterface t x) (ht : P.underlying t = some d) (hd : ∀ ms, d ≠ .interface ms) (hx : opd s x = some dd)
    (c : SL P ops rest Q (sput s o.dst (ifaceOf t dd)) δ σ) : SL P ops (o :: rest) Q s δ σ := sl_makeInterface hg ho ht hd (by rw [opd_eval hx]; exact c)
theorem pu_mv {K : Exacts} {x : Operand} {d : D} (ho : o.op = .move x) (hd : opd s x = some d) : PureOp P K s δ o d := by rw [← opd_eval hd]; exact pu_move ho
theorem pu_nc {K : Exacts} {x : Operand} {d : D} (ho : o.op = .nilCheck x) (hd : opd s x = some d) (hx : d.sure = true) : PureOp P K s δ o d := by
  have e := opd_eval hd
  subst e
  exact pu_nilCheck ho hx
theorem pu_pk_t {K : Exacts} {cd x y : Operand} {b : Bool} {d : D} (ho : o.op = .pick cd x y) (hb : evalO s cd = .val (.bool b)) (h : b = true) (hd : opd s x = some d) : PureOp P K s δ o d := by rw [← opd_eval hd]; exact pu_pick_t ho hb h
theorem pu_pk_f {K : Exacts} {cd x y : Operand} {b : Bool} {d : D} (ho : o.op = .pick cd x y) (hb : evalO s cd = .val (.bool b)) (h : b = false) (hd : opd s y = some d) : PureOp P K s δ o d := by rw [← opd_eval hd]; exact pu_pick_f ho hb h
theorem pu_bd {K : Exacts} {t : TypeId} {parts : List (Nat × Operand)} {pl : List (Nat × Nat)} {zs ds : List D} {pds : List (Nat × D)} (ho : o.op = .build t parts.toArray) (hpd : OpDs s parts pds)
    (hp : buildInfo P t = some pl) (hz : zeroDs P t = some zs) (hf : fillD (fun i => pl[i]?) zs pds = some ds) : PureOp P K s δ o (.agg ds) := by
  have hpd := hpd.eq
  subst hpd
  exact pu_build ho hp hz hf
theorem pu_mf {K : Exacts} {f : FuncId} {l : List Operand} {ds : List D} (ho : o.op = .makeFunc (.func f) #[] l.toArray) (hd : OpLs s l ds) : PureOp P K s δ o (.func f ds) := fun G a hr => by
  obtain ⟨h1, h2⟩ := repDs_map hr l
  have hd := hd.eq
  subst hd
  exact ⟨.func (.func f) #[] (l.toArray.map a.eval), .func f _ _ h1 h2, fun w _ => by simp only [execOp, ho, Instr.makeFunc, Sem.run_bind, Sem.run_pure, Result.andThen_ok, List.map_toArray, List.map_nil]⟩
theorem pu_extract {K : Exacts} {x : Operand} {i : Nat} {ds : List D} {d : D} (ho : o.op = .extract x i) (hx : evalO s x = .tup ds) (hd : ds[i]? = some d) : PureOp P K s δ o d := fun G a hr => by
  have h1 := hr.eval x; rw [hx] at h1
  generalize hv : a.eval x = v at h1
  obtain ⟨hlt, rfl⟩ := List.getElem?_eq_some_iff.mp hd
  cases h1 with
  | tup vs ds hsz hrep =>
    have hlt2 : i < vs.size := by omega
    refine ⟨vs[i], ?_, fun w _ => ?_⟩
    · have := hrep i hlt
      simpa only [Array.getD_eq_getD_getElem?, Array.getElem?_eq_getElem hlt2, Option.getD_some] using this
    · simp only [execOp, ho, hv, Instr.extract, Array.getElem?_eq_getElem hlt2, Sem.run_bind, Sem.run_pure, Result.andThen_ok]

theorem sl_appp {t u e : TypeId} {x y : Operand} {v : Value} {xs ys zs : List V} {sz bytes : Nat} {σ' : List Chunk} (hg : o.guard = none) (ho : o.op = .call { callee := .builtin .append, args := #[x, y], argTypes := #[t, u] })
    (hx : evalO s x = .own v xs) (hy : (evalO s y).asList = some ys) (ht : P.underlying t = some (.slice e)) (hu : ∃ d, P.underlying u = some d ∧ isInt d = false)
    (he : elOf P e = some (sz, bytes)) (hxs : SzI sz xs) (hys : SzI sz ys) (hfit : (xs.length + ys.length) * bytes ≤ 140737488355328) (hz : xs ++ ys = zs) (hp : Pick (.spare v sz) σ σ')
    (c : ∀ v', SL P ops rest Q (sput s o.dst (.own v' zs)) δ (.spare v' sz :: σ')) : SL P ops (o :: rest) Q s δ σ := sl_front hp (sl_app hg ho hx hy ht hu he hxs.get hys.get hfit hz c)

theorem sl_app_strp {t u e : TypeId} {x y : Operand} {v : Value} {xs zs : List V} {l : List UInt8} {bytes : Nat} {σ' : List Chunk} (hg : o.guard = none) (ho : o.op = .call { callee := .builtin .append, args := #[x, y], argTypes := #[t, u] })
    (hx : evalO s x = .own v xs) (hy : evalO s y = .val (.str l)) (ht : P.underlying t = some (.slice e)) (hu : P.underlying u = some .string)
    (he : elOf P e = some (1, bytes)) (hxs : SzI 1 xs) (hfit : (xs.length + l.length) * bytes ≤ 140737488355328) (hz : xs ++ l.map byteV = zs) (hp : Pick (.spare v 1) σ σ')
    (c : ∀ v', SL P ops rest Q (sput s o.dst (.own v' zs)) δ (.spare v' 1 :: σ')) : SL P ops (o :: rest) Q s δ σ := sl_front hp (sl_app_str hg ho hx hy ht hu he hxs.get hfit hz c)

end rules
end Go.Proofs.YtlolmemiedhhhaaDoor.SL

/- The program logic, twelfth part: panics, deferred calls, recovering; results in a cell; interface values. -/
namespace Go.Proofs.YtlolmemiedhhhaaDoor.SL
set_option linter.unusedVariables false
set_option linter.unusedSimpArgs false
open Go Go.RowKit

/-- How a frame stands when its deferred calls begin: it returns, or this value has been raised. -/
def modeOf : Option Value → FrameMode
  | none => .returning
  | some v => .panicking [{ v, recovered := false }]

/-- A deferred call: it returns, and what was raised is settled. -/
def DSpec (P : Program) (g : FuncId) (ds : List D) (σ : List Chunk) (x : Option Value) (K : List Chunk → Prop) : Prop :=
  ∀ G vs w, Inv G σ w → RepDs G.C vs ds → CallsD P g vs (modeOf x) w fun
    | .returned _, u', w' => settle u' = .returning ∧ ∃ G' σ', G.le G' ∧ Inv G' σ' w' ∧ K σ'
    | _, _, _ => False

theorem DSpec.use {P : Program} {g : FuncId} {ds : List D} {σ σ' : List Chunk} {x : Option Value} {K K' : List Chunk → Prop} (h : DSpec P g ds σ' x K') (hs : Sub σ' σ)
    (hk : ∀ σ'', K' σ'' → K σ'') : DSpec P g ds σ x K := fun G vs w hi hr => (h G vs w (hi.less hs) hr).mono fun e u' w' he => by
  cases e with
  | returned v => obtain ⟨h1, G', σ'', h2, h3, h4⟩ := he; exact ⟨h1, G', σ'', h2, h3, hk _ h4⟩
  | panicked ch => exact he
  | outgrown => exact he

def leaveQ (P : Program) (fn : Func) (R : D → List Chunk → Prop) (x : Option Value) (s : Slots) (δ : Defs) (σ : List Chunk) : Prop :=
  match δ with
  | [] => x = none ∧ ∃ d σ', ResD P fn s σ d ∧ Sub σ' σ ∧ R d σ'
  | [(g, ds)] => callable P g = true ∧ DSpec P g ds σ x fun σ' => ∃ d σ'', ResD P fn s σ' d ∧ Sub σ'' σ' ∧ R d σ''
  | _ => False

def deferQ (P : Program) (fn : Func) (R : D → List Chunk → Prop) : Post
  | .normal, s, δ, σ | .ret, s, δ, σ => leaveQ P fn R none s δ σ
  | .panic ch, s, δ, σ => ∃ v, ch = [{ v, recovered := false }] ∧ leaveQ P fn R (some v) s δ σ
  | _, _, _, _ => False

theorem leaves_of {P : Program} {fn : Func} {R : D → List Chunk → Prop} {x : Option Value} {G₀ G : Gh} {s : Slots} {δ : Defs} {σ : List Chunk} {a : Act} {w : World} (Rw : Ending → World → Prop)
    (hR : ∀ v w' G' d σ', G₀.le G' → Inv G' σ' w' → RepD G'.C v d → R d σ' → Rw (.returned v) w') (hle : G₀.le G)
    (hi : Inv G σ w) (hr : RelA G s δ a) (h : leaveQ P fn R x s δ σ) : Leaves P fn a.tmps Rw a.defers (modeOf x) w := by
  unfold leaveQ at h
  split at h
  · obtain ⟨rfl, d, σ', h1, h2, h3⟩ := h
    rw [defs_nil hr]
    obtain ⟨v, hv, hrep⟩ := h1 G a w hi ⟨_, hr⟩
    exact ⟨v, hv, hR _ _ G d σ' hle (hi.less h2) hrep h3⟩
  · rename_i g ds
    obtain ⟨hc, h⟩ := h
    obtain ⟨cap, args, h1, h2, h3⟩ := hr.defd 0 (by simp)
    have hlen := hr.defs
    have hd : a.defers = [{ target := .fn (.func g) cap, args := args }] := by
      match hh : a.defers, hlen, h1 with
      | [y], _, h1 => simpa using h1
    rw [hd]
    have hinv : (invoke (.fn (.func g) cap) args).run P w = .ok (.enter g (args ++ cap)) w := by
      simp only [invoke, callable_run hc]
    refine leaves_cons (by cases x <;> simp [modeOf]) hinv (CallsD.mono (h G _ w hi ⟨h2, fun k hk => h3 k hk⟩) fun e u' w' he => ?_)
    cases e with
    | returned v =>
      obtain ⟨hs, G', σ', g1, g2, d, σ'', g3, g4, g5⟩ := he
      simp only [hs]
      obtain ⟨v, hv, hrep⟩ := g3 G' a w' g2 ⟨_, hr.mono g1⟩
      exact ⟨v, hv, hR _ _ G' d σ'' (hle.trans g1) (g2.less g4) hrep g5⟩
    | panicked ch => exact he.elim
    | outgrown => exact he.elim
  · exact h.elim

theorem rel_start {fn : Func} {G : Gh} {vs : Array Value} {ds : List D} (hr : RepDs G.C vs ds) :
    RelA G ⟨ds.length + (fn.ntmps - ds.length), argS ds 0⟩ [] { tmps := vs ++ Array.replicate (fn.ntmps - vs.size) undef, defers := [] } := by
  refine ⟨by simp [hr.1], fun k hk => ?_, rfl, fun k hk => absurd hk (by simp)⟩
  show RepD G.C _ (orJunk (look (argS ds 0) k))
  rw [look_argS, if_pos (Nat.zero_le _), Nat.sub_zero]
  by_cases h1 : k < ds.length
  · rw [List.getElem?_eq_getElem h1]
    have := hr.2 k h1
    have h2 : k < vs.size := by rw [hr.1]; exact h1
    simp only [Array.getD_eq_getD_getElem?, Array.getElem?_append_left h2]
    show RepD G.C _ ds[k]
    simpa only [Array.getD_eq_getD_getElem?] using this
  · rw [List.getElem?_eq_none (Nat.le_of_not_lt h1)]; exact .junk _

/-- A contract of a function that defers one call. -/
theorem spec_of_defer {P : Program} {f : FuncId} {fn : Func} {c : Code} {ds : List D} {σ : List Chunk} {R : D → List Chunk → Prop}
    (hf : P.funcs[f]? = some fn) (hb : fn.body = some c)
    (h : SW P c (deferQ P fn R) ⟨ds.length + (fn.ntmps - ds.length), argS ds 0⟩ [] σ) : FSpec P f ds σ R := fun G vs w hi hr => by
  refine calls_of_wp_defers hf hb ?_
  refine wp_mono (h G _ w hi (rel_start hr)) fun e a' w' ⟨G', s', δ', σ', h1, h2, h3, h4⟩ => ?_
  cases e with
  | normal => exact leaves_of _ (fun v w' G' d σ' a b c e => ⟨G', d, σ', a, b, c, e⟩) h1 h2 h3 h4
  | ret => exact leaves_of _ (fun v w' G' d σ' a b c e => ⟨G', d, σ', a, b, c, e⟩) h1 h2 h3 h4
  | panic ch =>
    obtain ⟨v, rfl, h4⟩ := h4
    exact leaves_of (x := some v) _ (fun v w' G' d σ' a b c e => ⟨G', d, σ', a, b, c, e⟩) h1 h2 h3 h4
  | exit id => exact h4.elim
  | goto l => exact h4.elim
  | outgrown => exact h4.elim

/-- A deferred function that begins with 'x := recover()'. -/
theorem dspec_recover {P : Program} {g : FuncId} {fn : Func} {id : Nat} {o1 o2 : Oper} {t1 : Tmp} {rest : Code} {ds : List D} {σ : List Chunk} {x : Option Value} {K : List Chunk → Prop}
    (hf : P.funcs[g]? = some fn) (hb : fn.body = some (.seq (.region id [o1, o2].toArray false) rest))
    (h1 : o1.op = .call { callee := .builtin .recover, args := #[], argTypes := #[] }) (g1 : o1.guard = none) (h2 : o2.op = .assign (.tmp t1)) (g2 : o2.guard = none)
    (d : D) (hd : ∀ C, RepD C (x.getD .nilIface) d) (hd1 : o1.dst = some t1)
    (h : SW P rest (bodyQ P fn (fun _ σ' => K σ') (fun _ _ => False)) (sput (sput ⟨ds.length + (fn.ntmps - ds.length), argS ds 0⟩ (some t1) d) o2.dst (evalO (sput ⟨ds.length + (fn.ntmps - ds.length), argS ds 0⟩ (some t1) d) (.tmp t1))) [] σ) :
    DSpec P g ds σ x K := fun G vs w hi hr => by
  refine callsD_of_wpS hf hb fun c₀ cs hu => ?_
  refine wpS_seq (wpS_region ?_)
  have hrel := (rel_start (fn := fn) hr).put (some t1) (hd G.C)
  have hrel2 := hrel.put o2.dst (hrel.eval (.tmp t1))
  have hrec : (execOp ({ tmps := vs ++ Array.replicate (fn.ntmps - vs.size) undef, defers := [] } : Act).eval o1).run P w = .ok .recover w := by
    simp only [execOp, h1]; rfl
  have hass : ∀ a : Act, (execOp a.eval o2).run P w = .ok (.value (a.eval (.tmp t1))) w := fun a => by
    simp only [execOp, h2]; rfl
  have fin : ∀ u', settle u' = .returning → Code.wpS P rest (bodyPostS P fn c₀ cs fun
      | .returned _, u', w' => settle u' = .returning ∧ ∃ G' σ', G.le G' ∧ Inv G' σ' w' ∧ K σ'
      | _, _, _ => False) ((({ tmps := vs ++ Array.replicate (fn.ntmps - vs.size) undef, defers := [] } : Act).put (some t1) (x.getD .nilIface)).put o2.dst
        ((({ tmps := vs ++ Array.replicate (fn.ntmps - vs.size) undef, defers := [] } : Act).put (some t1) (x.getD .nilIface)).eval (.tmp t1))) ({ c₀ with mode := u' } :: cs) w := fun u' hs => by
    refine wpS_of_wp (wp_mono (h G _ w hi hrel2) fun e a' w' ⟨G', s', δ', σ', k1, k2, k3, k4⟩ => ?_)
    cases e with
    | normal =>
      obtain ⟨rfl, d', σ'', m1, m2, m3⟩ := k4
      obtain ⟨v, hv, hrep⟩ := m1 G' a' w' k2 ⟨_, k3⟩
      exact ⟨defs_nil k3, u', rfl, v, hv, hs, G', σ'', k1, k2.less m2, m3⟩
    | ret =>
      obtain ⟨rfl, d', σ'', m1, m2, m3⟩ := k4
      obtain ⟨v, hv, hrep⟩ := m1 G' a' w' k2 ⟨_, k3⟩
      exact ⟨defs_nil k3, u', rfl, v, hv, hs, G', σ'', k1, k2.less m2, m3⟩
    | panic ch => obtain ⟨_, _, _, k4⟩ := k4; exact k4.elim
    | exit id => exact k4.elim
    | goto l => exact k4.elim
    | outgrown => exact k4.elim
  have hr2 : List.range ([o1, o2].toArray.size) = [0, 1] := rfl
  have w1 : ∀ t, Region.wanted o1 t = true := fun t => by simp [Region.wanted, g1]
  have w2 : ∀ t, Region.wanted o2 t = true := fun t => by simp [Region.wanted, g2]
  rw [hr2]
  unfold wpOpsS
  simp only [show ([o1, o2].toArray)[0]? = some o1 from rfl, w1, if_true, hrec]
  cases x with
  | none =>
    have hrn : recoverD (c₀ :: cs) = none := by
      simp only [recoverD, hu, modeOf]
    simp only [hrn, hd1]
    unfold wpOpsS
    simp only [show ([o1, o2].toArray)[1]? = some o2 from rfl, w2, if_true, hass, Oper.upon_value]
    unfold wpOpsS
    have := fin .returning rfl
    have e : ({ c₀ with mode := .returning } : Frame) = c₀ := by
      have hu : c₀.mode = .returning := hu
      rw [← hu]
    rw [e] at this
    exact this
  | some v =>
    have hrn : recoverD (c₀ :: cs) = some (v, { c₀ with mode := .panicking [{ v, recovered := true }] } :: cs) := by
      simp only [recoverD, hu, modeOf]
    simp only [hrn, hd1]
    unfold wpOpsS
    simp only [show ([o1, o2].toArray)[1]? = some o2 from rfl, w2, if_true, hass, Oper.upon_value]
    unfold wpOpsS
    exact fin (.panicking [{ v, recovered := true }]) rfl

section rules
variable {P : Program} {ops : Array Oper} {Q : Post} {s : Slots} {δ : Defs} {σ : List Chunk} {o : Oper} {rest : List Oper}

/-- 'defer' of a function value. -/
theorem sl_defer {x : Operand} {l : List Operand} {at' : Array TypeId} {f : FuncId} {caps ds : List D} (hg : o.guard = none)
    (ho : o.op = .defer { callee := .value x, args := l.toArray, argTypes := at' }) (hx : evalO s x = .func f caps) (hd : l.map (evalO s) ++ caps = ds)
    (k : SL P ops rest Q (sput s o.dst .junk) ((f, ds) :: δ) σ) : SL P ops (o :: rest) Q s δ σ := fun G a w hi hr => by
  refine wpList_plain hg fun K hK => ?_
  have h1 := hr.eval x; rw [hx] at h1
  generalize hv : a.eval x = v at h1
  cases h1 with
  | func f vs ds' hsz hrep =>
    subst hd
    have hargs : RepDs G.C (l.toArray.map a.eval ++ vs) _ := (repDs_append (repDs_map hr l) ⟨hsz, hrep⟩)
    unfold Oper.wp
    have hrun : (execOp a.eval o).run P w = .ok (.defer { target := .fn (.func f) vs, args := l.toArray.map a.eval }) w := by
      simp only [execOp, ho, resolve, hv, Deferred.ofValue, Sem.run_bind, Sem.run_pure, Result.andThen_ok, Array.empty_append]
    rw [hrun, Oper.upon_defer]
    refine hK _ _ (k G _ w hi (RelA.put (a := { a with defers := _ :: a.defers }) ⟨hr.size, hr.slot, by simp [hr.defs], fun j hj => ?_⟩ o.dst (.junk _)))
    cases j with
    | zero => exact ⟨vs, l.toArray.map a.eval, rfl, hargs.1, fun k hk => hargs.2 k hk⟩
    | succ j => exact hr.defd j (by simpa using hj)

/-- 'panic'. -/
theorem sl_panic {x : Operand} {t : TypeId} {u : Value} {d : D} (hg : o.guard = none) (ho : o.op = .panic x) (hx : evalO s x = d) (hd : ∀ C v, RepD C v d → v = .iface t u)
    (k : Q (.panic [{ v := .iface t u, recovered := false }]) s δ σ) : SL P ops (o :: rest) Q s δ σ := fun G a w hi hr => by
  refine wpList_plain hg fun K hK => ?_
  have h1 := hr.eval x; rw [hx] at h1
  have h2 := hd _ _ h1
  unfold Oper.wp
  have hrun : (execOp a.eval o).run P w = .halt (.panic (.iface t u)) w := by
    simp only [execOp, ho, h2, Instr.panic, Sem.run_bind]; rfl
  rw [hrun, Oper.upon_panic]
  exact ⟨G, s, δ, σ, G.le_refl, hi, hr, k⟩

theorem empty_iface {C : Imm} {v : Value} {t : TypeId} (r : RepD C v (.iface t (.agg []))) : v = .iface t (.agg #[]) := by
  cases r with
  | iface t v d h =>
    cases h with
    | agg vs ds h1 h2 =>
      have : vs = #[] := Array.eq_empty_of_size_eq_zero h1
      rw [this]

/-- 'x.(T)' that holds, with the second result. -/
theorem sl_assert_ok {x : Operand} {t xt : TypeId} {d : D} {td : TypeDesc} (hg : o.guard = none) (ho : o.op = .typeAssert x xt t true) (hx : evalO s x = .iface t d)
    (ht : P.underlying t = some td) (hd : ∀ ms, td ≠ .interface ms)
    (c : SL P ops rest Q (sput s o.dst (.tup [d, .val (.bool true)])) δ σ) : SL P ops (o :: rest) Q s δ σ :=
  sl_pure hg (fun G a w hi hr => by
    have h1 := hr.eval x; rw [hx] at h1
    generalize hv : a.eval x = v at h1
    cases h1 with
    | iface t v d h =>
      refine ⟨.tuple #[v, .bool true], ?_, .tup _ _ rfl (fun k hk => ?_)⟩
      · simp only [execOp, ho, hv, Instr.typeAssert, Sem.run_bind, run_under ht, Result.andThen_ok]
        cases td <;> first | (simp [Sem.run_pure]; done) | exact absurd rfl (hd _)
      · match k, hk with
        | 0, _ => exact h
        | 1, _ => exact .val _ _ (.bool true)) c

/-- An interface value held against nil. -/
def D.ifaceNil : D → Option Bool
  | .val .nilIface => some true
  | .iface _ _ | .val (.iface _ _) => some false
  | _ => none

theorem sl_iface_nil {x : Operand} {t t' : TypeId} {b : Bool} {op : BinOp} (hg : o.guard = none) (ho : o.op = .binOp op t x (.const .nilIface) t') (hx : (evalO s x).ifaceNil = some b)
    (ht : ∃ ms, P.underlying t = some (.interface ms)) (hop : op = .eql ∨ op = .neq)
    (c : SL P ops rest Q (sput s o.dst (.val (.bool (if op = .eql then b else !b)))) δ σ) : SL P ops (o :: rest) Q s δ σ :=
  sl_pure hg (fun G a w hi hr => by
    obtain ⟨ms, ht⟩ := ht
    have h1 := hr.eval x
    have hg : (eqGuard op t x (.const .nilIface) (a.eval x) .nilIface).run P w = .ok () w := by
      generalize a.eval x = v at h1
      rcases hop with rfl | rfl <;> cases v <;> first | rfl | (cases x <;> rfl)
    have hb : (Op.equal t (a.eval x) .nilIface).run P w = .ok b w := by
      generalize a.eval x = v at h1
      have hh : ∀ d, (Op.equalIn (d + 1) t v .nilIface).run P w = .ok b w := fun d => by
        generalize evalO s x = dd at h1 hx
        cases h1 with
        | iface t v d h => simp only [D.ifaceNil, Option.some.injEq] at hx; subst hx; simp only [Op.equalIn, Sem.run_bind, run_under ht, Result.andThen_ok, Sem.run_pure]
        | val _ y h =>
          cases h <;> simp only [D.ifaceNil, Option.some.injEq, reduceCtorEq] at hx <;> subst hx <;> simp only [Op.equalIn, Sem.run_bind, run_under ht, Result.andThen_ok, Sem.run_pure]
        | _ => simp [D.ifaceNil] at hx
      exact hh 9999
    refine ⟨.bool (if op = .eql then b else !b), run_execBin ho hg ?_, rep_bin (.bool _)⟩
    generalize a.eval x = v at hb
    show (binOp op t v .nilIface).run P w = _
    rcases hop with rfl | rfl
    · cases v <;> simp only [binOp, Sem.run_bind, hb, Result.andThen_ok, Sem.run_pure, if_true]
    · cases v <;> simp only [binOp, Sem.run_bind, hb, Result.andThen_ok, Sem.run_pure, reduceCtorEq, if_false]) c

def notIf (P : Program) (t : TypeId) : Bool :=
  match P.underlying t with
  | some (.interface _) => false
  | some _ => true
  | none => false

def isIf (P : Program) (t : TypeId) : Bool :=
  match P.underlying t with
  | some (.interface _) => true
  | _ => false

theorem notIf_of {t : TypeId} (h : notIf P t = true) : ∃ d, P.underlying t = some d ∧ ∀ ms, d ≠ .interface ms := by
  unfold notIf at h
  split at h
  · cases h
  · rename_i d hn e; exact ⟨d, e, fun ms hm => hn ms hm⟩
  · cases h

theorem isIf_of {t : TypeId} (h : isIf P t = true) : ∃ ms, P.underlying t = some (.interface ms) := by
  unfold isIf at h
  split at h
  · rename_i ms e; exact ⟨ms, e⟩
  · cases h

theorem sl_mi' {t : TypeId} {x : Operand} {dd : D} (hg : o.guard = none) (ho : o.op = .makeInterface t x) (ht : notIf P t = true) (hx : opd s x = some dd)
    (c : SL P ops rest Q (sput s o.dst (ifaceOf t dd)) δ σ) : SL P ops (o :: rest) Q s δ σ := by
  obtain ⟨d, h1, h2⟩ := notIf_of ht
  exact sl_mi hg ho h1 h2 hx c

theorem sl_ta {x : Operand} {t xt : TypeId} {d : D} (hg : o.guard = none) (ho : o.op = .typeAssert x xt t true) (hx : evalO s x = .iface t d) (ht : notIf P t = true)
    (c : SL P ops rest Q (sput s o.dst (.tup [d, .val (.bool true)])) δ σ) : SL P ops (o :: rest) Q s δ σ := by
  obtain ⟨td, h1, h2⟩ := notIf_of ht
  exact sl_assert_ok hg ho hx h1 h2 c

theorem sl_eq_if {x : Operand} {t t' : TypeId} {b : Bool} (hg : o.guard = none) (ho : o.op = .binOp .eql t x (.const .nilIface) t') (hx : (evalO s x).ifaceNil = some b) (ht : isIf P t = true)
    (c : SL P ops rest Q (sput s o.dst (.val (.bool b))) δ σ) : SL P ops (o :: rest) Q s δ σ := sl_iface_nil hg ho hx (isIf_of ht) (.inl rfl) c

theorem sl_ne_if {x : Operand} {t t' : TypeId} {b : Bool} (hg : o.guard = none) (ho : o.op = .binOp .neq t x (.const .nilIface) t') (hx : (evalO s x).ifaceNil = some b) (ht : isIf P t = true)
    (c : SL P ops rest Q (sput s o.dst (.val (.bool (!b)))) δ σ) : SL P ops (o :: rest) Q s δ σ := sl_iface_nil hg ho hx (isIf_of ht) (.inr rfl) c

theorem sl_case_at (t : Tmp) {l : List Oper} {b : Bool} (hb : evalO s (.tmp t) = .val (.bool b)) (hy : b = true → SL P ops l Q s δ σ) (hn : b = false → SL P ops l Q s δ σ) : SL P ops l Q s δ σ := by
  cases b
  · exact hn rfl
  · exact hy rfl

theorem sa_case_at (t : Tmp) {fuel : Nat} {listed : Array Bool} {K : Exacts} {b : Bool} (hb : evalO s (.tmp t) = .val (.bool b)) (hy : b = true → SA P ops fuel listed Q s δ σ K)
    (hn : b = false → SA P ops fuel listed Q s δ σ K) : SA P ops fuel listed Q s δ σ K := by
  cases b
  · exact hn rfl
  · exact hy rfl

/-- From here on only this is known. -/
theorem sw_cutk {x y : Code} (s' : Slots) (σ' : List Chunk) (p : Prop) (h : SW P x (thenQ (fun s1 δ1 σ1 => SWk s1 s' ∧ Sub σ' σ1 ∧ δ1 = δ ∧ p) Q) s δ σ) (k : p → SW P y Q s' δ σ') :
    SW P x (thenQ (SW P y Q) Q) s δ σ := sw_mono h fun e s1 δ1 σ1 hq => by
  cases e with
  | normal =>
    obtain ⟨h1, h2, rfl, h4⟩ := hq
    exact sw_weak h1 (sw_less h2 (k h4))
  | exit id => exact hq
  | goto l => exact hq
  | ret => exact hq
  | panic ch => exact hq
  | outgrown => exact hq

/-- A result that lies in a cell of an owned block. -/
theorem res_cell {fn : Func} {t : Tmp} {ty : TypeId} {b f : Nat} {ds : List D} {d : D} (h : fn.results = #[.cell t ty]) (hs : evalO s (.tmp t) = .ptr b f) (ha : aggOf P ty = some false)
    (hm : (.blk b ds) ∈ σ) (hd : ds[f]? = some d) : ResD P fn s σ d := fun G a w hi ⟨_, hr⟩ => by
  obtain ⟨h0, rfl⟩ := List.getElem?_eq_some_iff.mp hd
  obtain ⟨vs, h2, h3⟩ := cell_of_blk hi hm
  have h1 := hr.eval (.tmp t); rw [hs] at h1; have e1 := rep_ptr h1
  have e1 : a.tmps.getD t undef = .pointer (some ⟨b, f, none⟩) := e1
  refine ⟨vs f, ?_, h3 f h0⟩
  unfold results
  have hl : (loadVar ty ⟨b, f, none⟩).run P w = .ok (vs f) w := by
    have := run_load_one (P := P) (w := w) ha (h2 f h0)
    simpa only [Instr.loadAt, Instr.sureAddr, Sem.run_bind, Sem.run_pure, Result.andThen_ok] using this
  have : ∀ (g : ResultVar → Sem Value), (Array.mapM g #[ResultVar.cell t ty]) = (do let x ← g (.cell t ty); pure #[x]) := fun g => by
    rw [show (#[ResultVar.cell t ty]) = [ResultVar.cell t ty].toArray from rfl, List.mapM_toArray]
    simp
  rw [h, this]
  simp only [e1, asAddr, Sem.run_bind, Sem.run_pure, Result.andThen_ok, hl]
  rfl

end rules
end Go.Proofs.YtlolmemiedhhhaaDoor.SL

/- The program logic, thirteenth part: how a statement's arguments are handed to a contract. -/
namespace Go.Proofs.YtlolmemiedhhhaaDoor.SL
set_option linter.unusedVariables false
set_option linter.unusedSimpArgs false
open Go Go.RowKit

theorem wf_range {k : IntKind} {n : Int} (h : (Lit.int k n).wf = true) : k.min ≤ n ∧ n ≤ k.max := by
  simpa [Lit.wf] using h

theorem wf_i64 {n : Int} (h : (Lit.int .i64 n).wf = true) : -9223372036854775808 ≤ n ∧ n ≤ 9223372036854775807 := wf_range h

theorem wf_u64 {n : Int} (h : (Lit.int .u64 n).wf = true) : 0 ≤ n ∧ n ≤ 18446744073709551615 := wf_range h

theorem wf_u8 {n : Int} (h : (Lit.int .u8 n).wf = true) : 0 ≤ n ∧ n ≤ 255 := wf_range h

inductive RL (C : Imm) : List Value → List D → Prop
  | nil : RL C [] []
  | cons {v : Value} {d : D} {vs : List Value} {ds : List D} (h : RepD C v d) (hs : RL C vs ds) : RL C (v :: vs) (d :: ds)

theorem RL.all {C : Imm} {vs : List Value} {ds : List D} (h : RL C vs ds) : vs.length = ds.length ∧ ∀ k (hk : k < ds.length), RepD C (vs.getD k undef) ds[k] := by
  induction h with
  | nil => exact ⟨rfl, fun k hk => absurd hk (by simp)⟩
  | cons h _ ih =>
    refine ⟨by simp [ih.1], fun k hk => ?_⟩
    cases k with
    | zero => simpa using h
    | succ k => simpa using ih.2 k (by simpa using hk)

theorem RL.to {C : Imm} {vs : List Value} {ds : List D} (h : RL C vs ds) : RepDs C vs.toArray ds := by
  refine ⟨by simpa using h.all.1, fun k hk => ?_⟩
  have := h.all.2 k hk
  simpa [Array.getD_eq_getD_getElem?, List.getD_eq_getElem?_getD] using this

theorem yielded_undef {G : Gh} {s : Slots} {δ : Defs} {a : Act} {ops : Array Oper} {j : Nat} {t : Tmp} (hr : RelA G s δ a) (hj : (ops[j]?).bind (·.dst) = some t) (hb : evalO s (.tmp t) = .tup []) : yielded ops a.tmps j = none := by
  have h1 := hr.eval (.tmp t)
  rw [hb] at h1
  simp only [Act.eval] at h1
  unfold yielded
  simp only [hj, Option.bind_some]
  generalize hv : a.tmps.getD t undef = v at h1
  cases h1 with
  | tup vs ds h h' =>
    by_cases hlt : t < a.tmps.size
    · rw [Array.getElem?_eq_getElem hlt]
      simp only [Array.getD_eq_getD_getElem?, Array.getElem?_eq_getElem hlt, Option.getD_some] at hv
      rw [hv]
    · rw [Array.getElem?_eq_none (Nat.le_of_not_lt hlt)]

/-- An operation under a guard that was not taken itself. -/
theorem sl_guard_u {P : Program} {ops : Array Oper} {Q : Post} {s : Slots} {δ : Defs} {σ : List Chunk} {o : Oper} {rest : List Oper} {j : Nat} {want : Bool} {t : Tmp} (hg : o.guard = some (j, want)) (hj : (ops[j]?).bind (·.dst) = some t)
    (hb : evalO s (.tmp t) = .tup []) (hn : SL P ops rest Q (sput s o.dst (.tup [])) δ σ) : SL P ops (o :: rest) Q s δ σ := fun G a w hi hr => by
  have hyd := yielded_undef hr hj hb
  have h1 := hn G _ w hi (hr.put o.dst (rep_undef G.C))
  unfold wpList
  rw [if_neg (by simp [Region.wanted, hg, hyd])]
  exact h1

theorem sa_take_u {P : Program} {ops : Array Oper} {Q : Post} {s : Slots} {δ : Defs} {σ : List Chunk} {K : Exacts} {fuel : Nat} {listed : Array Bool} (i : Nat) {o : Oper} {j : Nat} {want : Bool} {t : Tmp} (ho : ops[i]? = some o) (hg : o.guard = some (j, want)) (hj : (ops[j]?).bind (·.dst) = some t) (hb : evalO s (.tmp t) = .tup [])
    (h0 : saOk ops listed i = true) [hQ : PanicOk Q] (hK : ExactsOf K σ)
    (h : SA P ops fuel (listed.setIfInBounds i true) Q (sput s o.dst (.tup [])) δ σ K) : SA P ops (fuel + 1) listed Q s δ σ K := fun G a w hi hrel => by
  obtain ⟨hs, hf, hr⟩ := saOk_of h0
  have hyd := yielded_undef hrel hj hb
  exact wpAnyH_take (v := undef) ho hs hf hr (fun c a w hl => lift_panic hQ hl) (.inr ⟨by simp [Region.wanted, hg, hyd], rfl⟩) (kept_of hi hK) (h G _ w hi (hrel.put o.dst (rep_undef G.C)))

/-- Two operations may come now. -/
theorem sa_two {P : Program} {ops : Array Oper} {Q : Post} {s : Slots} {δ : Defs} {σ : List Chunk} {K : Exacts} {fuel : Nat} {listed : Array Bool} (i j : Nat) {o o' : Oper} (hr : Region.ready .any ops listed = [i, j]) (ho : ops[i]? = some o) (ho' : ops[j]? = some o')
    (h : SL P ops [o] (stepQ (fun s δ σ => ExactsOf K σ ∧ SA P ops fuel (listed.setIfInBounds i true) Q s δ σ K) Q) s δ σ)
    (h' : SL P ops [o'] (stepQ (fun s δ σ => ExactsOf K σ ∧ SA P ops fuel (listed.setIfInBounds j true) Q s δ σ K) Q) s δ σ) : SA P ops (fuel + 1) listed Q s δ σ K :=
  sa_all hr (by simp) fun k hk => by
    rcases List.mem_cons.mp hk with rfl | hk
    · exact ⟨o, ho, h⟩
    · rw [List.mem_singleton] at hk
      subst hk
      exact ⟨o', ho', h'⟩

/-- A cell's list without room gets an owner, ahead of code. -/
theorem sw_own_blk {P : Program} {Q : Post} {s : Slots} {δ : Defs} {σ : List Chunk} {c : Code} {b i sz : Nat} {ds : List D} {xs : List V} (hd : ds[i]? = some (.fix xs))
    (k : ∀ v, SW P c Q s δ (.blk b (ds.set i (.own v xs)) :: .spare v sz :: σ)) : SW P c Q s δ (.blk b ds :: σ) := fun G a w hi hr => by
  obtain ⟨hlt, hdi⟩ := List.getElem?_eq_some_iff.mp hd
  obtain ⟨cs, ty, fz, h, h1, h2, h3⟩ := hi.holds _ (List.mem_cons_self ..)
  have hv := h3 i hlt
  rw [hdi] at hv
  generalize hval : cs.getD i undef = v at hv
  cases hv with
  | fix ad xs hx =>
    have hi' : Inv G (.spare (.slice ad xs.length xs.length) sz :: .blk b ds :: σ) w := hi.add ⟨ad, _, _, rfl, .inl rfl⟩ (fun b e => by cases ad <;> simp [Chunk.b?] at e) (fun b o e => by cases ad <;> simp [Chunk.owns] at e) (fun b e => by cases ad <;> simp [Chunk.b?] at e)
    have hi2 : Inv G (.blk b ds :: .spare (.slice ad xs.length xs.length) sz :: σ) w := hi'.perm (List.Perm.swap _ _ _)
    refine k (.slice ad xs.length xs.length) G a w (hi2.change (b := b) rfl (fun x e => by simpa [Chunk.b?] using e.symm) G.le_refl (fun x o v hv => .inl hv) rfl rfl rfl rfl (fun _ _ => rfl) (fun o v hv => hi.agree _ _ _ hv) ?_ (fun x o e => hi.apart _ (List.mem_cons_self ..) x o e) (fun t0 c0 f0 h0 => ⟨c0, f0, h0, rfl⟩)) hr
    refine ⟨cs, ty, fz, h, h1, by simpa using h2, fun k hk => ?_⟩
    have hk' : k < ds.length := by simpa using hk
    by_cases e : i = k
    · subst e
      rw [List.getElem_set_self, hval]; exact .own _ _ hx
    · rw [List.getElem_set_ne e]; exact h3 k hk'

/-- A struct that lies in an owned block, as a result. -/
theorem res_celln {P : Program} {fn : Func} {s : Slots} {σ : List Chunk} {t : Tmp} {ty : TypeId} {b f n : Nat} {ds : List D} (h : fn.results = #[.cell t ty]) (hs : evalO s (.tmp t) = .ptr b f) (ha : aggOf P ty = some true) (hn : szOf P ty = some n)
    (hm : (.blk b ds) ∈ σ) (hle : f + n ≤ ds.length) : ResD P fn s σ (.agg ((ds.drop f).take n)) := fun G a w hi ⟨_, hr⟩ => by
  obtain ⟨vs, h2, h3⟩ := cell_of_blk hi hm
  have h1 := hr.eval (.tmp t); rw [hs] at h1; have e1 := rep_ptr h1
  have e1 : a.tmps.getD t undef = .pointer (some ⟨b, f, none⟩) := e1
  refine ⟨.agg ((List.range n).map fun k => vs (f + k)).toArray, ?_, .agg _ _ (by simp; omega) (fun k hk => ?_)⟩
  · unfold results
    have hl : (loadVar ty ⟨b, f, none⟩).run P w = .ok (.agg ((List.range n).map fun k => vs (f + k)).toArray) w := by
      have := run_load_agg (P := P) (w := w) (vs := fun k => vs (f + k)) ha hn (fun k hk => h2 _ (by omega))
      simpa only [Instr.loadAt, Instr.sureAddr, Sem.run_bind, Sem.run_pure, Result.andThen_ok] using this
    have : ∀ (g : ResultVar → Sem Value), (Array.mapM g #[ResultVar.cell t ty]) = (do let x ← g (.cell t ty); pure #[x]) := fun g => by
      rw [show (#[ResultVar.cell t ty]) = [ResultVar.cell t ty].toArray from rfl, List.mapM_toArray]
      simp
    rw [h, this]
    simp only [e1, asAddr, Sem.run_bind, Sem.run_pure, Result.andThen_ok, hl]
    rfl
  · have hk' : k < n := by simp at hk; omega
    rw [range_getD n k _ hk', List.getElem_take, List.getElem_drop]
    exact h3 _ (by omega)

/-- The same datum in other words, in a region that draws its order. -/
theorem sa_set {P : Program} {ops : Array Oper} {Q : Post} {s : Slots} {δ : Defs} {σ : List Chunk} {fuel : Nat} {listed : Array Bool} {K : Exacts} (t : Nat) (d' : D) (h : s.get t = d')
    (c : SA P ops fuel listed Q (sput s (some t) d') δ σ K) : SA P ops fuel listed Q s δ σ K := fun G a w hi hr => c G a w hi (hr.recast t fun v r => h ▸ r)

/-- A block of pure data becomes immutable, ahead of code. -/
theorem sw_freeze {P : Program} {Q : Post} {s : Slots} {δ : Defs} {σ : List Chunk} {c : Code} {t b : Nat} {ds : List D} {xs : List V} (hs : s.get t = .ptr b 0) (hx : toVs ds = some xs)
    (k : SW P c Q (sput s (some t) (.rp xs)) δ σ) : SW P c Q s δ (.blk b ds :: σ) := fun G a w hi hr => by
  obtain ⟨cs, ty, fz, h, h1, h2, h3⟩ := hi.holds _ (List.mem_cons_self ..)
  obtain ⟨hle, hi'⟩ := hi.freeze h
  obtain ⟨h4, h5⟩ := toVs_rep h2 h3 hx
  refine wp_mono (k _ a w hi' ?_) fun e a w l => l.mono hle
  refine (hr.mono hle).recast t fun v r => ?_
  rw [hs] at r
  have hv := rep_ptr r
  rw [hv]
  refine .rp b 0 xs (fun k => cs.getD k undef) (fun k hk => ?_) (fun k hk => (h5 k hk).mono hle.2)
  have hk' : k < cs.size := by omega
  show (if b = b then cs[0 + k]? else G.C b (0 + k)) = _
  rw [if_pos rfl, Nat.zero_add, Array.getElem?_eq_getElem hk', Array.getD_eq_getD_getElem?, Array.getElem?_eq_getElem hk']; rfl

/-- A list without room gets an owner, ahead of code. -/
theorem sw_own {P : Program} {Q : Post} {s : Slots} {δ : Defs} {σ : List Chunk} {c : Code} {t : Nat} {sz : Nat} {xs : List V} (hs : evalO s (.tmp t) = .fix xs)
    (k : ∀ v, SW P c Q (sput s (some t) (.own v xs)) δ (.spare v sz :: σ)) : SW P c Q s δ σ := fun G a w hi hr => by
  have hv := hr.eval (.tmp t)
  rw [hs] at hv
  generalize hval : a.eval (.tmp t) = v at hv
  cases hv with
  | fix ad xs h =>
    refine k (.slice ad xs.length xs.length) G a w (hi.add ⟨ad, xs.length, xs.length, rfl, .inl rfl⟩ (fun b e => ?_) (fun b o e => ?_) (fun b e => ?_)) ?_
    · cases ad <;> simp [Chunk.b?] at e
    · cases ad <;> simp [Chunk.owns] at e
    · cases ad <;> simp [Chunk.b?] at e
    · have hlt : t < s.n := by
        by_cases h : t < s.n
        · exact h
        · rw [evalO_ge h] at hs; cases hs
      refine ⟨hr.size, fun k hk => ?_, hr.defs, hr.defd⟩
      rw [get_put]
      have hk : k < s.n := hk
      split
      · rename_i e; subst e
        have hval : a.tmps.getD t undef = _ := hval
        rw [hval]; exact .own _ _ h
      · exact hr.slot k hk

/-- A law by its contract. -/
theorem law_run {P : Program} {f : FuncId} {ds : List D} (h : FSpec P f ds [] fun d σ' => d = .val (.bool true) ∧ σ' = []) {W : World} (ht : Tabs W) {vs : List Value} (hr : RL (memC W) vs ds) :
    Calls P f vs.toArray W fun e w' => e = .returned (.bool true) ∧ Below W.heap.size W w' := law_calls (h.mono fun _ _ h => h.1) ht hr.to

end Go.Proofs.YtlolmemiedhhhaaDoor.SL

/- The program logic, fourteenth part: structs held against one another. -/
namespace Go.Proofs.YtlolmemiedhhhaaDoor.SL
set_option linter.unusedVariables false
set_option linter.unusedSimpArgs false
open Go Go.RowKit

/-- What a cell of a struct that may be held against another is. -/
inductive EK where
  | bool
  | int (k : IntKind)
  | str

def eqFs (P : Program) (g : TypeId → Option (List EK)) : List Field → Nat → Option (List EK)
  | [], _ => some []
  | f :: fs, off =>
    if f.name ≠ "_" ∧ f.offset = off then
      match g f.type, szOf P f.type with
      | some ks, some n => if ks.length = n then (eqFs P g fs (off + n)).map (ks ++ ·) else none
      | _, _ => none
    else none

/-- The cells of a type whose values are held against one another cell by cell. -/
def eqKs (P : Program) : Nat → TypeId → Option (List EK)
  | 0, _ => none
  | n + 1, t =>
    match P.underlying t with
    | some .bool => some [.bool]
    | some (.int k) => some [.int k]
    | some .string => some [.str]
    | some (.struct fs) => if P.stoodInHeld t then none else eqFs P (eqKs P n) fs.toList 0
    | _ => none

def ikEq : IntKind → IntKind → Bool
  | .i8, .i8 | .i16, .i16 | .i32, .i32 | .i64, .i64 | .u8, .u8 | .u16, .u16 | .u32, .u32 | .u64, .u64 => true
  | _, _ => false

theorem ikEq_eq {a b : IntKind} (h : ikEq a b = true) : a = b := by cases a <;> cases b <;> first | rfl | simp [ikEq] at h

def oneK : EK → V → V → Option Bool
  | .bool, .bool a, .bool b => some (a == b)
  | .int _, .int k a, .int k' b => cond (ikEq k k') (some (a == b)) none
  | .str, .str a, .str b => some (a == b)
  | _, _, _ => none

def cmpK : List EK → List V → List V → Option Bool
  | [], [], [] => some true
  | e :: ks, x :: xs, y :: ys =>
    match oneK e x y, cmpK ks xs ys with
    | some b, some r => some (b && r)
    | _, _ => none
  | _, _, _ => none

theorem cmpK_cons {e : EK} {ks : List EK} {xs ys : List V} {r : Bool} (h : cmpK (e :: ks) xs ys = some r) :
    ∃ x y xs' ys' b r', xs = x :: xs' ∧ ys = y :: ys' ∧ oneK e x y = some b ∧ cmpK ks xs' ys' = some r' ∧ r = (b && r') := by
  cases xs with
  | nil => simp [cmpK] at h
  | cons x xs =>
    cases ys with
    | nil => simp [cmpK] at h
    | cons y ys =>
      simp only [cmpK] at h
      split at h
      · rename_i b r' h1 h2
        simp only [Option.some.injEq] at h
        exact ⟨x, y, xs, ys, b, r', rfl, rfl, h1, h2, h.symm⟩
      · cases h

/-- The cells of a value of this type. -/
def EqRep (C : Imm) (P : Program) (t : TypeId) (v : Value) (xs : List V) : Prop :=
  ∃ cs : Array Value, cs.size = xs.length ∧ (∀ k (hk : k < xs.length), RepV C (cs.getD k undef) xs[k]) ∧ (aggOf P t = some true ∧ v = .agg cs ∨ aggOf P t = some false ∧ cs = #[v])

theorem cmpK_len : ∀ {ks : List EK} {xs ys : List V} {r : Bool}, cmpK ks xs ys = some r → xs.length = ks.length ∧ ys.length = ks.length
  | [], xs, ys, r, h => by
    cases xs <;> cases ys <;> first | exact ⟨rfl, rfl⟩ | (simp [cmpK] at h)
  | e :: ks, xs, ys, r, h => by
    obtain ⟨x, y, xs', ys', b, r', rfl, rfl, h1, h2, rfl⟩ := cmpK_cons h
    have := cmpK_len h2
    simp [this]

theorem cmpK_append : ∀ {ks ks2 : List EK} {xs ys : List V} {r : Bool}, cmpK (ks ++ ks2) xs ys = some r →
    ∃ r1 r2, r = (r1 && r2) ∧ cmpK ks (xs.take ks.length) (ys.take ks.length) = some r1 ∧ cmpK ks2 (xs.drop ks.length) (ys.drop ks.length) = some r2
  | [], ks2, xs, ys, r, h => ⟨true, r, by simp, by simp [cmpK], by simpa using h⟩
  | e :: ks, ks2, xs, ys, r, h => by
    rw [List.cons_append] at h
    obtain ⟨x, y, xs', ys', b, r', rfl, rfl, h1, h2, rfl⟩ := cmpK_cons h
    obtain ⟨r1, r2, rfl, h3, h4⟩ := cmpK_append h2
    refine ⟨b && r1, r2, (Bool.and_assoc _ _ _).symm, ?_, by simpa using h4⟩
    simp only [List.length_cons, List.take_succ_cons, cmpK, h1, h3]

theorem run_part {P : Program} {C : Imm} {w : World} {t : TypeId} {n off : Nat} {cs : Array Value} {xs : List V} {b : Bool} (ha : aggOf P t = some b) (hs : szOf P t = some n) (hn : n = xs.length) (h1 : b = false → n = 1)
    (hle : off + n ≤ cs.size) (hr : ∀ k (hk : k < xs.length), RepV C (cs.getD (off + k) undef) xs[k]) : ∃ v, (part t cs off).run P w = .ok v w ∧ EqRep C P t v xs := by
  cases b with
  | true =>
    refine ⟨.agg (cs.extract off (off + n)), ?_, cs.extract off (off + n), by simp; omega, fun k hk => ?_, .inl ⟨ha, rfl⟩⟩
    · simp only [part, Sem.run_bind, run_isAgg ha, Result.andThen_ok, if_true, run_sizeOf hs, Sem.run_pure]
    · have h2 : k < (cs.extract off (off + n)).size := by simp; omega
      have h3 : off + k < cs.size := by omega
      have := hr k hk
      simp only [Array.getD_eq_getD_getElem?, Array.getElem?_eq_getElem h3, Option.getD_some] at this
      simpa only [Array.getD_eq_getD_getElem?, Array.getElem?_eq_getElem h2, Option.getD_some, Array.getElem_extract] using this
  | false =>
    have := h1 rfl
    have h3 : off < cs.size := by omega
    refine ⟨cs[off], ?_, #[cs[off]], by simp; omega, fun k hk => ?_, .inr ⟨ha, rfl⟩⟩
    · simp only [part, Sem.run_bind, run_isAgg ha, Result.andThen_ok, Bool.false_eq_true, if_false, Array.getElem?_eq_getElem h3, Sem.run_pure]
    · have h0 : k = 0 := by omega
      subst h0
      have := hr 0 hk
      exact (by simpa only [Nat.add_zero, Array.getD_eq_getD_getElem?, Array.getElem?_eq_getElem h3, Option.getD_some] using this : RepV C cs[off] xs[0])

theorem run_eqFs {P : Program} {C : Imm} {g : TypeId → Option (List EK)} {d : Nat} (hg1 : ∀ t ks, g t = some ks → ∃ b, aggOf P t = some b ∧ (b = false → ks.length = 1))
    (hg : ∀ t ks, g t = some ks → ∀ v u xs ys r, EqRep C P t v xs → EqRep C P t u ys → cmpK ks xs ys = some r → ∀ w, (Op.equalIn d t v u).run P w = .ok r w) :
    ∀ (fs : List Field) (off : Nat) (ks : List EK), eqFs P g fs off = some ks → ∀ (cs ds : Array Value) (xs ys : List V) (r : Bool), cs.size = off + xs.length → ds.size = off + ys.length →
      (∀ k (hk : k < xs.length), RepV C (cs.getD (off + k) undef) xs[k]) → (∀ k (hk : k < ys.length), RepV C (ds.getD (off + k) undef) ys[k]) → cmpK ks xs ys = some r → ∀ w, (Op.eqFields d cs ds fs).run P w = .ok r w
  | [], off, ks, h, cs, ds, xs, ys, r, h1, h2, h3, h4, h5, w => by
    simp only [eqFs, Option.some.injEq] at h; subst h
    obtain ⟨l1, l2⟩ := cmpK_len h5
    have e1 : xs = [] := List.eq_nil_of_length_eq_zero l1
    have e2 : ys = [] := List.eq_nil_of_length_eq_zero l2
    subst e1; subst e2
    simp only [cmpK, Option.some.injEq] at h5; subst h5
    simp [Op.eqFields]
  | f :: fs, off, ks, h, cs, ds, xs, ys, r, h1, h2, h3, h4, h5, w => by
    unfold eqFs at h
    split at h
    · rename_i hc
      obtain ⟨hc1, hc2⟩ := hc
      split at h
      · rename_i ks1 n hk1 hn
        split at h
        · rename_i hl
          obtain ⟨ks2, hks2, rfl⟩ := Option.map_eq_some_iff.mp h
          obtain ⟨r1, r2, rfl, c1, c2⟩ := cmpK_append h5
          obtain ⟨l1, l2⟩ := cmpK_len h5
          simp only [List.length_append] at l1 l2
          obtain ⟨b, ha, hb⟩ := hg1 _ _ hk1
          have t1 : (xs.take ks1.length).length = n := by simp; omega
          have t2 : (ys.take ks1.length).length = n := by simp; omega
          obtain ⟨v, p1, e1⟩ := run_part (C := C) (w := w) (off := off) (cs := cs) (xs := xs.take ks1.length) ha hn t1.symm (fun e => by have := hb e; omega) (by omega)
            (fun k hk => by rw [List.getElem_take]; exact h3 k (by omega))
          obtain ⟨u, p2, e2⟩ := run_part (C := C) (w := w) (off := off) (cs := ds) (xs := ys.take ks1.length) ha hn t2.symm (fun e => by have := hb e; omega) (by omega)
            (fun k hk => by rw [List.getElem_take]; exact h4 k (by omega))
          have q := hg _ _ hk1 v u _ _ r1 e1 e2 c1 w
          have ih := run_eqFs hg1 hg fs (off + n) ks2 hks2 cs ds (xs.drop ks1.length) (ys.drop ks1.length) r2 (by simp; omega) (by simp; omega)
            (fun k hk => by
              have := h3 (n + k) (by simp at hk; omega)
              rw [← Nat.add_assoc] at this
              simp only [List.getElem_drop, hl]; exact this)
            (fun k hk => by
              have := h4 (n + k) (by simp at hk; omega)
              rw [← Nat.add_assoc] at this
              simp only [List.getElem_drop, hl]; exact this) c2 w
          unfold Op.eqFields
          rw [if_pos hc1, hc2]
          simp only [Sem.run_bind, p1, p2, q, Result.andThen_ok]
          cases r1
          · simp
          · simpa using ih
        · cases h
      · cases h
    · cases h

theorem eqKs_agg {P : Program} : ∀ n t ks, eqKs P n t = some ks → ∃ b, aggOf P t = some b ∧ (b = false → ks.length = 1)
  | 0, t, ks, h => by simp [eqKs] at h
  | n + 1, t, ks, h => by
    unfold eqKs at h
    split at h
    · rename_i e; cases h; exact ⟨false, by simp [aggOf, e], fun _ => rfl⟩
    · rename_i e; cases h; exact ⟨false, by simp [aggOf, e], fun _ => rfl⟩
    · rename_i e; cases h; exact ⟨false, by simp [aggOf, e], fun _ => rfl⟩
    · rename_i e; exact ⟨true, by simp [aggOf, e], fun h => by cases h⟩
    · cases h

theorem eqRep_one {C : Imm} {P : Program} {t : TypeId} {v : Value} {x : V} (h : EqRep C P t v [x]) (ha : aggOf P t = some false) : RepV C v x := by
  obtain ⟨cs, h1, h2, h3⟩ := h
  rcases h3 with h3 | h3
  · rw [ha] at h3; cases h3.1
  · obtain ⟨_, rfl⟩ := h3
    exact h2 0 (by simp)

theorem cmpK_one {e : EK} {xs ys : List V} {r : Bool} (h : cmpK [e] xs ys = some r) : ∃ x y, xs = [x] ∧ ys = [y] ∧ oneK e x y = some r := by
  obtain ⟨x, y, xs', ys', b, r', rfl, rfl, h1, h2, rfl⟩ := cmpK_cons h
  obtain ⟨l1, l2⟩ := cmpK_len h2
  have e1 := List.eq_nil_of_length_eq_zero l1
  have e2 := List.eq_nil_of_length_eq_zero l2
  subst e1; subst e2
  simp only [cmpK, Option.some.injEq] at h2
  subst h2
  exact ⟨x, y, rfl, rfl, by rw [Bool.and_true]; exact h1⟩

theorem oneK_bool {x y : V} {r : Bool} (h : oneK .bool x y = some r) : ∃ a b, x = .bool a ∧ y = .bool b ∧ r = (a == b) := by
  cases x <;> cases y <;> simp only [oneK, reduceCtorEq, Option.some.injEq] at h
  exact ⟨_, _, rfl, rfl, h.symm⟩
theorem oneK_str {x y : V} {r : Bool} (h : oneK .str x y = some r) : ∃ a b, x = .str a ∧ y = .str b ∧ r = (a == b) := by
  cases x <;> cases y <;> simp only [oneK, reduceCtorEq, Option.some.injEq] at h
  exact ⟨_, _, rfl, rfl, h.symm⟩
theorem oneK_int {k0 : IntKind} {x y : V} {r : Bool} (h : oneK (.int k0) x y = some r) : ∃ k a b, x = .int k a ∧ y = .int k b ∧ r = (a == b) := by
  cases x <;> cases y <;> simp only [oneK, reduceCtorEq] at h
  rename_i k a k' b
  cases hk : ikEq k k' <;> rw [hk] at h
  · cases h
  · have hkk := ikEq_eq hk
    subst hkk
    simp only [cond_true, Option.some.injEq] at h
    exact ⟨k, a, b, rfl, rfl, h.symm⟩

theorem run_eqKs {P : Program} {C : Imm} : ∀ n t ks, eqKs P n t = some ks → ∀ d, n ≤ d → ∀ v u xs ys r, EqRep C P t v xs → EqRep C P t u ys → cmpK ks xs ys = some r → ∀ w, (Op.equalIn d t v u).run P w = .ok r w
  | 0, t, ks, h, _, _, _, _, _, _, _, _, _, _, _ => by simp [eqKs] at h
  | n + 1, t, ks, h, d, hd, v, u, xs, ys, r, hv, hu, hr, w => by
    obtain ⟨d, rfl⟩ : ∃ d', d = d' + 1 := ⟨d - 1, by omega⟩
    unfold eqKs at h
    split at h
    · rename_i e; cases h
      have ha : aggOf P t = some false := by simp [aggOf, e]
      obtain ⟨x, y, rfl, rfl, h1⟩ := cmpK_one hr
      have r1 := eqRep_one hv ha
      have r2 := eqRep_one hu ha
      obtain ⟨a, b, rfl, rfl, rfl⟩ := oneK_bool h1
      cases r1; cases r2
      exact run_equalIn_bool w d t _ _ e
    · rename_i k0 e; cases h
      have ha : aggOf P t = some false := by simp [aggOf, e]
      obtain ⟨x, y, rfl, rfl, h1⟩ := cmpK_one hr
      have r1 := eqRep_one hv ha
      have r2 := eqRep_one hu ha
      obtain ⟨k, a, b, rfl, rfl, rfl⟩ := oneK_int h1
      cases r1; cases r2
      exact run_equalIn_int w d t _ _ _ _ e
    · rename_i e; cases h
      have ha : aggOf P t = some false := by simp [aggOf, e]
      obtain ⟨x, y, rfl, rfl, h1⟩ := cmpK_one hr
      have r1 := eqRep_one hv ha
      have r2 := eqRep_one hu ha
      obtain ⟨a, b, rfl, rfl, rfl⟩ := oneK_str h1
      cases r1; cases r2
      rw [run_equalIn_string w d t _ _ e, toList_data, toList_data]
    · rename_i fs e
      have ha : aggOf P t = some true := by simp [aggOf, e]
      split at h
      · cases h
      · rename_i hs
        have hf : P.fieldsOf t = fs := by simp [Program.fieldsOf, e]
        obtain ⟨cs, a1, a2, a3⟩ := hv
        obtain ⟨ds, b1, b2, b3⟩ := hu
        rcases a3 with ⟨_, rfl⟩ | ⟨a3, _⟩
        · rcases b3 with ⟨_, rfl⟩ | ⟨b3, _⟩
          · rw [run_equalIn_agg w d t cs ds (by rw [hf]; exact e) (by simpa using hs), hf]
            exact run_eqFs (C := C) (g := eqKs P n) (eqKs_agg n) (fun t ks h v u xs ys r h1 h2 h3 w => run_eqKs n t ks h d (by omega) v u xs ys r h1 h2 h3 w) fs.toList 0 ks h cs ds xs ys r (by omega) (by omega)
              (fun k hk => by rw [Nat.zero_add]; exact a2 k hk) (fun k hk => by rw [Nat.zero_add]; exact b2 k hk) hr w
          · rw [ha] at b3; cases b3
        · rw [ha] at a3; cases a3
    · cases h

theorem eqRep_agg {C : Imm} {P : Program} {t : TypeId} {v : Value} {xs : List V} (h : RepV C v (.agg xs)) (ha : aggOf P t = some true) : ∃ cs, v = .agg cs ∧ EqRep C P t v xs := by
  cases h with
  | agg cs xs h1 h2 => exact ⟨cs, rfl, cs, h1, h2, .inl ⟨ha, rfl⟩⟩

section rules
variable {P : Program} {ops : Array Oper} {Q : Post} {s : Slots} {δ : Defs} {σ : List Chunk} {K : Exacts} {o : Oper} {rest : List Oper}

theorem run_structEq {op : BinOp} {t : TypeId} {x y : Operand} {v u : Value} {C : Imm} {xs ys : List V} {ks : List EK} {r : Bool} (hv : RepV C v (.agg xs)) (hu : RepV C u (.agg ys)) (ha : aggOf P t = some true) (hm : P.eqGuardType P.depth t = false)
    (hk : eqKs P 9 t = some ks) (hr : cmpK ks xs ys = some r) (hop : op = .eql ∨ op = .neq) (w : World) :
    (eqGuard op t x y v u).run P w = .ok () w ∧ (binOp op t v u).run P w = .ok (.bool (if op = .eql then r else !r)) w := by
  obtain ⟨cs, rfl, e1⟩ := eqRep_agg hv ha
  obtain ⟨ds, rfl, e2⟩ := eqRep_agg hu ha
  refine ⟨run_eqGuard_agg w op t x y cs ds hm, ?_⟩
  have := run_eqKs 9 t ks hk 10000 (by omega) _ _ _ _ r e1 e2 hr w
  rcases hop with rfl | rfl
  · rw [run_eql_struct, this]; rfl
  · rw [run_neq_struct, this]; rfl

theorem sl_struct_eq {t t' : TypeId} {x y : Operand} {xs ys : List V} {ks : List EK} {r : Bool} (hg : o.guard = none) (ho : o.op = .binOp .eql t x y t') (hx : toV (evalO s x) = some (.agg xs)) (hy : toV (evalO s y) = some (.agg ys))
    (ha : aggOf P t = some true) (hm : P.eqGuardType P.depth t = false) (hk : eqKs P 9 t = some ks) (hr : cmpK ks xs ys = some r)
    (c : SL P ops rest Q (sput s o.dst (.val (.bool r))) δ σ) : SL P ops (o :: rest) Q s δ σ :=
  sl_pure hg (fun G a w hi hrel => by
    obtain ⟨h1, h2⟩ := run_structEq (op := .eql) (x := x) (y := y) (toV_rep (hrel.eval x) _ hx) (toV_rep (hrel.eval y) _ hy) ha hm hk hr (.inl rfl) w
    exact ⟨_, run_execBin ho h1 h2, rep_bin (.bool _)⟩) c

theorem sl_struct_ne {t t' : TypeId} {x y : Operand} {xs ys : List V} {ks : List EK} {r : Bool} (hg : o.guard = none) (ho : o.op = .binOp .neq t x y t') (hx : toV (evalO s x) = some (.agg xs)) (hy : toV (evalO s y) = some (.agg ys))
    (ha : aggOf P t = some true) (hm : P.eqGuardType P.depth t = false) (hk : eqKs P 9 t = some ks) (hr : cmpK ks xs ys = some r)
    (c : SL P ops rest Q (sput s o.dst (.val (.bool (!r)))) δ σ) : SL P ops (o :: rest) Q s δ σ :=
  sl_pure hg (fun G a w hi hrel => by
    obtain ⟨h1, h2⟩ := run_structEq (op := .neq) (x := x) (y := y) (toV_rep (hrel.eval x) _ hx) (toV_rep (hrel.eval y) _ hy) ha hm hk hr (.inr rfl) w
    exact ⟨_, run_execBin ho h1 h2, rep_bin (.bool _)⟩) c

theorem pu_struct_eq {t t' : TypeId} {x y : Operand} {xs ys : List V} {ks : List EK} {r : Bool} (ho : o.op = .binOp .eql t x y t') (hx : toV (evalO s x) = some (.agg xs)) (hy : toV (evalO s y) = some (.agg ys))
    (ha : aggOf P t = some true) (hm : P.eqGuardType P.depth t = false) (hk : eqKs P 9 t = some ks) (hr : cmpK ks xs ys = some r) : PureOp P K s δ o (.val (.bool r)) := fun G a hrel =>
  ⟨_, rep_bin (.bool _), fun w _ => by
    obtain ⟨h1, h2⟩ := run_structEq (op := .eql) (x := x) (y := y) (toV_rep (hrel.eval x) _ hx) (toV_rep (hrel.eval y) _ hy) ha hm hk hr (.inl rfl) w
    exact run_execBin ho h1 h2⟩

theorem pu_struct_ne {t t' : TypeId} {x y : Operand} {xs ys : List V} {ks : List EK} {r : Bool} (ho : o.op = .binOp .neq t x y t') (hx : toV (evalO s x) = some (.agg xs)) (hy : toV (evalO s y) = some (.agg ys))
    (ha : aggOf P t = some true) (hm : P.eqGuardType P.depth t = false) (hk : eqKs P 9 t = some ks) (hr : cmpK ks xs ys = some r) : PureOp P K s δ o (.val (.bool (!r))) := fun G a hrel =>
  ⟨_, rep_bin (.bool _), fun w _ => by
    obtain ⟨h1, h2⟩ := run_structEq (op := .neq) (x := x) (y := y) (toV_rep (hrel.eval x) _ hx) (toV_rep (hrel.eval y) _ hy) ha hm hk hr (.inr rfl) w
    exact run_execBin ho h1 h2⟩

/-- A list without room gets an owner, in a region that draws its order. -/
theorem sa_own {fuel : Nat} {listed : Array Bool} {t : Nat} {sz : Nat} {xs : List V} (hs : evalO s (.tmp t) = .fix xs)
    (k : ∀ v, SA P ops fuel listed Q (sput s (some t) (.own v xs)) δ (.spare v sz :: σ) K) : SA P ops fuel listed Q s δ σ K := fun G a w hi hr => by
  have hv := hr.eval (.tmp t)
  rw [hs] at hv
  generalize hval : a.eval (.tmp t) = v at hv
  cases hv with
  | fix ad xs h =>
    refine k (.slice ad xs.length xs.length) G a w (hi.add ⟨ad, xs.length, xs.length, rfl, .inl rfl⟩ (fun b e => ?_) (fun b o e => ?_) (fun b e => ?_)) ?_
    · cases ad <;> simp [Chunk.b?] at e
    · cases ad <;> simp [Chunk.owns] at e
    · cases ad <;> simp [Chunk.b?] at e
    · have hlt : t < s.n := by
        by_cases h : t < s.n
        · exact h
        · rw [evalO_ge h] at hs; cases hs
      refine ⟨hr.size, fun k hk => ?_, hr.defs, hr.defd⟩
      rw [get_put]
      have hk : k < s.n := hk
      split
      · rename_i e; subst e
        have hval : a.tmps.getD t undef = _ := hval
        rw [hval]; exact .own _ _ h
      · exact hr.slot k hk

end rules
end Go.Proofs.YtlolmemiedhhhaaDoor.SL

/- The program logic, fifteenth part: slices whose elements are written. -/
namespace Go.Proofs.YtlolmemiedhhhaaDoor.SL
set_option linter.unusedVariables false
set_option linter.unusedSimpArgs false
open Go Go.RowKit

/-- Rows, one behind the other, and what lies behind them. -/
def rowsD (rows : List (List D)) (zs : List D) : List D := rows.flatten ++ zs
def RowsOk (sz : Nat) (rows : List (List D)) : Prop := ∀ r ∈ rows, r.length = sz
def rowOf (y : V) : List D := y.cells.map D.val

theorem rows_flat_len {sz : Nat} : ∀ {rows : List (List D)}, RowsOk sz rows → rows.flatten.length = rows.length * sz
  | [], _ => by simp
  | r :: rows, h => by
    rw [List.flatten_cons, List.length_append, rows_flat_len (fun x hx => h x (List.mem_cons_of_mem _ hx)), h r (List.mem_cons_self ..), List.length_cons, Nat.add_mul]
    omega

theorem rows_len {sz : Nat} {rows : List (List D)} {zs : List D} (h : RowsOk sz rows) : (rowsD rows zs).length = rows.length * sz + zs.length := by
  rw [rowsD, List.length_append, rows_flat_len h]

theorem putAt_left {ds es xs : List D} {f : Nat} (h : f + xs.length ≤ ds.length) : putAt (ds ++ es) f xs = putAt ds f xs ++ es := by
  unfold putAt
  rw [List.take_append_of_le_length (by omega), List.drop_append_of_le_length (by omega)]
  simp only [List.append_assoc]

theorem putAt_right {ds es xs : List D} {f : Nat} : putAt (ds ++ es) (ds.length + f) xs = ds ++ putAt es f xs := by
  unfold putAt
  rw [List.take_append, List.take_of_length_le (Nat.le_add_right _ _), Nat.add_sub_cancel_left, List.drop_append, List.drop_eq_nil_of_le (by omega)]
  simp only [List.append_assoc, List.nil_append]
  rw [show ds.length + f + xs.length - ds.length = f + xs.length by omega]

theorem rows_at {sz : Nat} : ∀ {rows : List (List D)} {zs : List D} {i : Nat} {r : List D}, RowsOk sz rows → rows[i]? = some r → ∃ pre post, rowsD rows zs = pre ++ (r ++ post) ∧ pre.length = i * sz ∧
    ∀ r', r'.length = sz → rowsD (rows.set i r') zs = pre ++ (r' ++ post)
  | [], zs, i, r, _, h => by simp at h
  | r0 :: rows, zs, 0, r, hk, h => by
    simp only [List.getElem?_cons_zero, Option.some.injEq] at h
    subst h
    exact ⟨[], rows.flatten ++ zs, by simp [rowsD], by simp, fun r' _ => by simp [rowsD]⟩
  | r0 :: rows, zs, i + 1, r, hk, h => by
    simp only [List.getElem?_cons_succ] at h
    obtain ⟨pre, post, h1, h2, h3⟩ := rows_at (zs := zs) (fun x hx => hk x (List.mem_cons_of_mem _ hx)) h
    refine ⟨r0 ++ pre, post, ?_, ?_, fun r' hr' => ?_⟩
    · rw [List.append_assoc, ← h1]; simp [rowsD]
    · rw [List.length_append, hk r0 (List.mem_cons_self ..), h2, Nat.add_mul]; omega
    · rw [List.append_assoc, ← h3 r' hr']; simp [rowsD]

theorem rows_get {sz off i : Nat} {rows : List (List D)} {zs r : List D} {d : D} (hk : RowsOk sz rows) (h : rows[i]? = some r) (hd : r[off]? = some d) : (rowsD rows zs)[i * sz + off]? = some d := by
  obtain ⟨pre, post, h1, h2, _⟩ := rows_at (zs := zs) hk h
  have hlt := (List.getElem?_eq_some_iff.mp hd).1
  rw [h1, List.getElem?_append_right (by omega), List.getElem?_append_left (by omega), ← hd]
  congr 1; omega

theorem rows_take {sz off i n : Nat} {rows : List (List D)} {zs r : List D} (hk : RowsOk sz rows) (h : rows[i]? = some r) (hn : off + n ≤ r.length) : ((rowsD rows zs).drop (i * sz + off)).take n = (r.drop off).take n := by
  obtain ⟨pre, post, h1, h2, _⟩ := rows_at (zs := zs) hk h
  rw [h1, ← h2, List.drop_append, List.drop_eq_nil_of_le (by omega), List.nil_append, Nat.add_sub_cancel_left, List.drop_append_of_le_length (by omega), List.take_append_of_le_length (by rw [List.length_drop]; omega)]

theorem rows_put {sz off i : Nat} {rows : List (List D)} {zs r xs : List D} (hk : RowsOk sz rows) (h : rows[i]? = some r) (hn : off + xs.length ≤ r.length) : putAt (rowsD rows zs) (i * sz + off) xs = rowsD (rows.set i (putAt r off xs)) zs := by
  obtain ⟨pre, post, h1, h2, h3⟩ := rows_at (zs := zs) hk h
  have hr : r.length = sz := hk r (List.mem_of_getElem? h)
  rw [h3 _ (by rw [putAt_length hn, hr]), h1, ← h2, putAt_right, putAt_left hn]

theorem rows_le {sz i : Nat} {rows : List (List D)} {zs r : List D} (hk : RowsOk sz rows) (h : rows[i]? = some r) : i * sz + sz ≤ (rowsD rows zs).length := by
  have hlt := (List.getElem?_eq_some_iff.mp h).1
  rw [rows_len hk]
  have : (i + 1) * sz ≤ rows.length * sz := Nat.mul_le_mul_right _ hlt
  rw [Nat.add_mul] at this; omega

theorem rowsOk_map {α : Type} {f : α → V} {sz : Nat} {l : List α} (h : ∀ a, (f a).cells.length = sz) : RowsOk sz ((l.map f).map rowOf) := fun r hr => by
  obtain ⟨y, hy, rfl⟩ := List.mem_map.mp hr
  obtain ⟨a, _, rfl⟩ := List.mem_map.mp hy
  rw [rowOf, List.length_map]; exact h a

theorem rows_cells : ∀ (ys : List V), (ys.map rowOf).flatten = (ys.flatMap V.cells).map D.val
  | [] => rfl
  | y :: ys => by
    simp only [List.map_cons, List.flatten_cons, List.flatMap_cons, List.map_append, rows_cells ys]; rfl

theorem rows_map_get {α : Type} {f : α → V} {l : List α} {i : Nat} {a : α} (h : l[i]? = some a) : ((l.map f).map rowOf)[i]? = some (rowOf (f a)) := by
  rw [List.getElem?_map, List.getElem?_map, h]; rfl

theorem rows_map_set {α : Type} {f : α → V} {l : List α} {i : Nat} {a : α} {r : List D} (h : r = rowOf (f a)) : ((l.map f).map rowOf).set i r = ((l.set i a).map f).map rowOf := by
  rw [h, List.map_set, List.map_set]

section rules
variable {P : Program} {ops : Array Oper} {Q : Post} {s : Slots} {δ : Defs} {σ : List Chunk} {K : Exacts} {o : Oper} {rest : List Oper}

theorem sl_len_sl {t : TypeId} {x : Operand} {b f n c : Nat} (hg : o.guard = none) (ho : o.op = .call { callee := .builtin .len, args := #[x], argTypes := #[t] })
    (hx : evalO s x = .sl b f n c) (ht : ∃ e, P.underlying t = some (.slice e))
    (k : SL P ops rest Q (sput s o.dst (.val (.int .i64 n))) δ σ) : SL P ops (o :: rest) Q s δ σ :=
  sl_pure hg (fun G a w hi hr => by
    obtain ⟨e, he⟩ := ht
    have h1 := hr.eval x; rw [hx] at h1; have hv := rep_sl h1
    refine ⟨_, run_call_builtin ho ?_, rep_bin (.int _ _)⟩
    simp only [builtin, List.map_toArray, List.map_cons, List.map_nil, Builtin.len_, Sem.run_bind, hv]
    simp only [List.getElem?_toArray, List.getElem?_cons_zero, Sem.run_bind, run_under he, Result.andThen_ok, Sem.run_pure, goInt]) k

theorem pu_len_sl {t : TypeId} {x : Operand} {b f n c : Nat} (ho : o.op = .call { callee := .builtin .len, args := #[x], argTypes := #[t] })
    (hx : evalO s x = .sl b f n c) (ht : ∃ e, P.underlying t = some (.slice e)) : PureOp P K s δ o (.val (.int .i64 n)) := fun G a hr => by
  obtain ⟨e, he⟩ := ht
  have h1 := hr.eval x; rw [hx] at h1; have hv := rep_sl h1
  refine ⟨_, rep_bin (.int _ _), fun w _ => run_call_builtin ho ?_⟩
  simp only [builtin, List.map_toArray, List.map_cons, List.map_nil, Builtin.len_, Sem.run_bind, hv]
  simp only [List.getElem?_toArray, List.getElem?_cons_zero, Sem.run_bind, run_under he, Result.andThen_ok, Sem.run_pure, goInt]

theorem run_index_sl {G : Gh} {a : Act} {t e : TypeId} {x i : Operand} {k : IntKind} {j b n c sz : Nat} (hr : RelA G s δ a) (ho : o.op = .indexAddr t x i)
    (hx : evalO s x = .sl b 0 n c) (hn : evalO s i = .val (.int k (j : Int))) (ht : P.underlying t = some (.slice e)) (hs : szOf P e = some sz) (hlt : j < n) (w : World) :
    (execOp a.eval o).run P w = .ok (.value (.pointer (some ⟨b, j * sz, none⟩))) w := by
  have h1 := hr.eval x; rw [hx] at h1; have hv := rep_sl h1
  have h2 := hr.eval i; rw [hn] at h2; have e2 := rep_int h2
  have hin : 0 ≤ (j : Int) ∧ (j : Int) < (n : Int) := ⟨by omega, by omega⟩
  simp only [execOp, ho, hv, e2, Instr.indexAt, asIntOf, Sem.run_bind, Sem.run_pure, Result.andThen_ok, run_under ht, hin, and_self, if_true, run_sizeOf hs, addr_add, Int.toNat_natCast, Nat.zero_add]

theorem sl_index_sl {t e : TypeId} {x i : Operand} {k : IntKind} {b n c sz : Nat} (j : Nat) (hg : o.guard = none) (ho : o.op = .indexAddr t x i)
    (hx : evalO s x = .sl b 0 n c) (hn : evalO s i = .val (.int k (j : Int))) (ht : P.underlying t = some (.slice e)) (hs : szOf P e = some sz) (hlt : j < n)
    (kk : SL P ops rest Q (sput s o.dst (.ptr b (j * sz))) δ σ) : SL P ops (o :: rest) Q s δ σ :=
  sl_pure hg (fun G a w hi hr => ⟨_, run_index_sl hr ho hx hn ht hs hlt w, .ptr _ _⟩) kk

theorem pu_index_sl {t e : TypeId} {x i : Operand} {k : IntKind} {b n c sz : Nat} (j : Nat) (ho : o.op = .indexAddr t x i)
    (hx : evalO s x = .sl b 0 n c) (hn : evalO s i = .val (.int k (j : Int))) (ht : P.underlying t = some (.slice e)) (hs : szOf P e = some sz) (hlt : j < n) : PureOp P K s δ o (.ptr b (j * sz)) := fun G a hr =>
  ⟨_, .ptr _ _, fun w _ => run_index_sl hr ho hx hn ht hs hlt w⟩

/-- One cell of a row. -/
theorem sl_load_row1 {t : TypeId} {x : Operand} {b sz : Nat} {rows : List (List D)} {zs r : List D} {d : D} (i off : Nat) (hg : o.guard = none) (ho : o.op = .load t x) (hx : evalO s x = .ptr b (i * sz + off))
    (ht : aggOf P t = some false) (hm : (.blk b (rowsD rows zs)) ∈ σ) (hk : RowsOk sz rows) (hr : rows[i]? = some r) (hd : r[off]? = some d)
    (c : SL P ops rest Q (sput s o.dst d) δ σ) : SL P ops (o :: rest) Q s δ σ := sl_load_blk1 hg ho hx ht hm (rows_get hk hr hd) c

/-- Some cells of a row, as a struct. -/
theorem sl_load_rown {t : TypeId} {x : Operand} {b sz n : Nat} {rows : List (List D)} {zs r : List D} (i off : Nat) (hg : o.guard = none) (ho : o.op = .load t x) (hx : evalO s x = .ptr b (i * sz + off))
    (ht : aggOf P t = some true) (hn : szOf P t = some n) (hm : (.blk b (rowsD rows zs)) ∈ σ) (hk : RowsOk sz rows) (hr : rows[i]? = some r) (hle : off + n ≤ sz)
    (c : SL P ops rest Q (sput s o.dst (.agg ((r.drop off).take n))) δ σ) : SL P ops (o :: rest) Q s δ σ := by
  have hl : r.length = sz := hk r (List.mem_of_getElem? hr)
  have := rows_le (zs := zs) hk hr
  refine sl_load_blkn hg ho hx ht hn hm (by omega) ?_
  rw [rows_take hk hr (by omega)]; exact c

/-- A store into a row (its block is the first). -/
theorem sl_store_row {t : TypeId} {x y : Operand} {b sz n : Nat} {rows rows' : List (List D)} {zs r : List D} {d : D} (i off : Nat) (hg : o.guard = none) (ho : o.op = .store t x y) (hx : evalO s x = .ptr b (i * sz + off)) (hd : opd s y = some d)
    (hn : szOf P t = some n) (hkn : d.known = true) (hc : d.cells.all D.cell = true) (hl : d.cells.length = n) (hk : RowsOk sz rows) (hr : rows[i]? = some r) (hle : off + n ≤ sz) (he : rows.set i (putAt r off d.cells) = rows')
    (c : SL P ops rest Q (sput s o.dst .junk) δ (.blk b (rowsD rows' zs) :: σ)) : SL P ops (o :: rest) Q s δ (.blk b (rowsD rows zs) :: σ) := by
  have hrl : r.length = sz := hk r (List.mem_of_getElem? hr)
  have := rows_le (zs := zs) hk hr
  refine sl_st hg ho hx hd hn hkn hc hl (by omega) ?_
  rw [rows_put hk hr (by omega), he]; exact c

theorem sl_store_rowp {t : TypeId} {x y : Operand} {b sz n : Nat} {rows rows' : List (List D)} {zs r : List D} {d : D} {σ' : List Chunk} (i off : Nat) (hg : o.guard = none) (ho : o.op = .store t x y) (hx : evalO s x = .ptr b (i * sz + off)) (hd : opd s y = some d)
    (hn : szOf P t = some n) (hkn : d.known = true) (hc : d.cells.all D.cell = true) (hl : d.cells.length = n) (hp : Pick (.blk b (rowsD rows zs)) σ σ') (hk : RowsOk sz rows) (hr : rows[i]? = some r) (hle : off + n ≤ sz) (he : rows.set i (putAt r off d.cells) = rows')
    (c : SL P ops rest Q (sput s o.dst .junk) δ (.blk b (rowsD rows' zs) :: σ')) : SL P ops (o :: rest) Q s δ σ := sl_front hp (sl_store_row i off hg ho hx hd hn hkn hc hl hk hr hle he c)

/-- append to nothing: a new block, that is owned. -/
theorem sl_append_new {t u e : TypeId} {x y : Operand} {ys : List V} {sz bytes : Nat} (hg : o.guard = none) (ho : o.op = .call { callee := .builtin .append, args := #[x, y], argTypes := #[t, u] })
    (hx : evalO s x = .fix []) (hy : (evalO s y).asList = some ys) (ht : P.underlying t = some (.slice e)) (hu : ∃ d, P.underlying u = some d ∧ isInt d = false)
    (he : elOf P e = some (sz, bytes)) (hys : Sized sz ys) (hfit : ys.length * bytes ≤ 140737488355328)
    (c0 : ys = [] → SL P ops rest Q (sput s o.dst (.fix [])) δ σ)
    (c1 : ∀ b c zs, ys ≠ [] → ys.length ≤ c → SL P ops rest Q (sput s o.dst (.sl b 0 ys.length c)) δ (.blk b (rowsD (ys.map rowOf) zs) :: σ)) : SL P ops (o :: rest) Q s δ σ :=
  sl_op hg fun G a w hi hr => by
    obtain ⟨⟨i, z, h1, h2, rfl, rfl, h3⟩, h4, h5⟩ := elOf_ok he
    obtain ⟨d, hd1, hd2⟩ := hu
    have r1 := hr.eval x; rw [hx] at r1
    generalize hv : a.eval x = vx at r1
    have hs' : szOf P e = some i.size := by simp [szOf, h1]
    obtain ⟨cs, hsrc, hcs⟩ := src_of_list (P := P) hi (asList_rep (hr.eval y) hy) (fun y hy => (hys y hy).1)
    cases r1 with
    | fix ad _ r1 =>
      by_cases hn : ys = []
      · subst hn
        have hz : cs.toList = [] := by
          have := hsrc.size
          simp only [List.length_nil, Nat.zero_mul] at this
          exact List.eq_nil_of_length_eq_zero (by simpa using this)
        refine ⟨.slice ad 0 0, w, G, .fix [], σ, run_call_builtin ho ?_, G.le_refl, hi, .fix ad [] r1, c0 rfl⟩
        have := run_append_in (P := P) (w := w) (w' := w) (ty := o.type) (a := ad) (n := 0) (c := 0) ht hd1 hd2 hs' hsrc (Nat.le_refl _) (fun b _ => by rw [hz]; rfl) (fun _ => rfl)
        simp only [List.length_nil, Nat.add_zero] at this
        simp only [builtin, List.map_toArray, List.map_cons, List.map_nil, Sem.run_bind, hv, List.length_nil, this, Result.andThen_ok, Sem.run_pure]
      · have hpos : 0 < ys.length := by
          cases ys with
          | nil => exact absurd rfl hn
          | cons y ys => simp
        have hold : ∀ w' : World, w'.heap = w.heap → (Builtin.firstCells i.size 0 (.slice ad 0 0)).run P w' = .ok #[] w' := fun w' _ => by
          cases ad with
          | none => exact run_firstCells_none ..
          | some b => simp [Builtin.firstCells, Nat.zero_mul, loadCells, loadCellsFrom]
        have hrun := run_append_out (ty := o.type) (n := 0) (c := 0) (a := ad) ht hd1 hd2 h1 h2 hsrc (s := .slice ad 0 0) rfl hold (by omega) (by simpa using hfit) h5
        simp only [Nat.zero_add] at hrun
        have hge : ys.length ≤ grownCap w ys.length 0 e := grownCap_ge
        generalize hcap : grownCap w ys.length 0 e = cap at hrun hge
        have hflat : (ys.flatMap V.cells).length = ys.length * i.size := (flat_get (fun y hy => (hys y hy).1)).1
        have hrows := rows_cells ys
        have hcsz := hsrc.size
        have hi1 : Inv G (.blk w.heap.size (rowsD (ys.map rowOf) (List.replicate ((cap - ys.length) * i.size) .junk)) :: σ) (w.drew.alloc (.cells (#[] ++ cs ++ Builtin.zeroCells z.cells (cap - ys.length)) e)) := by
          refine (hi.drew.alloc (cs := #[] ++ cs ++ Builtin.zeroCells z.cells (cap - ys.length)) ?_ fun k hk => ?_)
          · simp only [rowsD, hrows, Array.size_append, List.size_toArray, List.length_nil, Builtin.zeroCells, Array.size_map, Array.size_range, List.length_append, List.length_map, List.length_replicate, hflat, hcsz, h3, Nat.zero_add]
          · simp only [rowsD, hrows]
            by_cases hlt : k < (ys.flatMap V.cells).length
            · rw [List.getElem_append_left (by simpa using hlt), List.getElem_map]
              have hk2 : k < cs.size := by omega
              have := hcs k _ (List.getElem?_eq_getElem hlt)
              simp only [Array.getD_eq_getD_getElem?] at this ⊢
              rw [Array.getElem?_append_left (by simp; omega), Array.empty_append]
              exact .val _ _ this
            · rw [List.getElem_append_right (by simpa using hlt), List.getElem_replicate]; exact .junk _
        refine ⟨_, _, G, .sl w.heap.size 0 ys.length cap, _, run_call_builtin ho ?_, G.le_refl, hi1, .sl _ _ _ _, c1 w.heap.size cap _ hn hge⟩
        simp only [builtin, List.map_toArray, List.map_cons, List.map_nil, Sem.run_bind, hv, List.length_nil, hrun, Result.andThen_ok, Sem.run_pure]

/-- A cell's slice becomes immutable. -/
theorem sw_freeze_cell {code : Code} {b1 i b n c sz : Nat} {ds : List D} {ys : List V} {zs : List D} (hd : ds[i]? = some (.sl b 0 n c)) (hn : ys.length = n) (hc : n ≤ c) (hsz : ∀ y ∈ ys, y.cells.length = sz)
    (k : SW P code Q s δ (.blk b1 (ds.set i (.val (.list ys))) :: σ)) : SW P code Q s δ (.blk b1 ds :: .blk b (rowsD (ys.map rowOf) zs) :: σ) := fun G a w hi hr => by
  obtain ⟨cs, ty, fz, h, h1, h2, h3⟩ := hi.holds (.blk b (rowsD (ys.map rowOf) zs)) (List.mem_cons_of_mem _ (List.mem_cons_self ..))
  have hi0 := hi.perm (List.Perm.swap _ _ _)
  obtain ⟨hle, hi'⟩ := hi0.freeze h
  obtain ⟨hlt, hdi⟩ := List.getElem?_eq_some_iff.mp hd
  obtain ⟨cs1, ty1, fz1, g, g1, g2, g3⟩ := hi'.holds _ (List.mem_cons_self ..)
  have hv := g3 i hlt
  rw [hdi] at hv
  have hval := rep_sl hv
  have hrows := rows_cells ys
  have hflat := (flat_get hsz).1
  have hlen : cs.size = ys.length * sz + zs.length := by
    rw [h2, rowsD, List.length_append, hrows, List.length_map, hflat]
  have hlist : RepV (G.freeze b cs).C (.slice (some ⟨b, 0, none⟩) ys.length c) (.list ys) := by
    refine list_of_flat (cs := cs) hsz (by omega) (fun k hk => ?_) (fun k y hy => ?_)
    · show (if b = b then cs[0 + k]? else _) = _
      have hk' : k < cs.size := by omega
      rw [if_pos rfl, Nat.zero_add, Array.getElem?_eq_getElem hk', Array.getD_eq_getD_getElem?, Array.getElem?_eq_getElem hk']; rfl
    · obtain ⟨hk, hy⟩ := List.getElem?_eq_some_iff.mp hy
      have hk2 : k < (rowsD (ys.map rowOf) zs).length := by rw [rowsD, List.length_append, hrows, List.length_map]; omega
      have := h3 k hk2
      simp only [rowsD, hrows] at this
      rw [List.getElem_append_left (by simpa using hk), List.getElem_map, hy] at this
      rw [Nat.zero_add]
      exact (toV_rep this _ rfl).mono hle.2
  subst hn
  refine wp_mono (k _ a w (hi'.change (b := b1) rfl (fun x e => by simpa [Chunk.b?] using e.symm) (Gh.le_refl _) (fun x o v hv => .inl hv) rfl rfl rfl rfl (fun _ _ => rfl) (fun o v hv => hi'.agree _ _ _ hv) ?_ (fun x o e => hi'.apart _ (List.mem_cons_self ..) x o e) (fun t0 c0 f0 h0 => ⟨c0, f0, h0, rfl⟩)) (hr.mono hle)) fun e a w l => l.mono hle
  refine ⟨cs1, ty1, fz1, g, g1, by simpa using g2, fun k hk => ?_⟩
  have hk' : k < ds.length := by simpa using hk
  by_cases e : i = k
  · subst e
    rw [List.getElem_set_self, hval]; exact .val _ _ hlist
  · rw [List.getElem_set_ne e]; exact g3 k hk'

end rules
end Go.Proofs.YtlolmemiedhhhaaDoor.SL

/- The program logic, sixteenth part: several results, some of them in cells; a list without room handed to one who appends. -/
namespace Go.Proofs.YtlolmemiedhhhaaDoor.SL
set_option linter.unusedVariables false
set_option linter.unusedSimpArgs false
open Go Go.RowKit

inductive ResL (P : Program) (s : Slots) (σ : List Chunk) : List ResultVar → List D → Prop
  | nil : ResL P s σ [] []
  | tmp {t : Tmp} {d : D} {rs : List ResultVar} {ds : List D} (hd : evalO s (.tmp t) = d) (h : ResL P s σ rs ds) : ResL P s σ (.tmp t :: rs) (d :: ds)
  | cell1 {t : Tmp} {ty : TypeId} {b f : Nat} {cs : List D} {d : D} {rs : List ResultVar} {ds : List D} (hs : evalO s (.tmp t) = .ptr b f) (ha : aggOf P ty = some false) (hm : (.blk b cs) ∈ σ) (hd : cs[f]? = some d)
      (h : ResL P s σ rs ds) : ResL P s σ (.cell t ty :: rs) (d :: ds)
  | celln {t : Tmp} {ty : TypeId} {b f n : Nat} {cs : List D} {rs : List ResultVar} {ds : List D} (hs : evalO s (.tmp t) = .ptr b f) (ha : aggOf P ty = some true) (hn : szOf P ty = some n) (hm : (.blk b cs) ∈ σ) (hle : f + n ≤ cs.length)
      (h : ResL P s σ rs ds) : ResL P s σ (.cell t ty :: rs) (.agg ((cs.drop f).take n) :: ds)

def resVal (tmps : Array Value) : ResultVar → Sem Value
  | .tmp t => pure (tmps.getD t undef)
  | .cell u t => do loadVar t (← asAddr (tmps.getD u undef))

theorem run_resCell {P : Program} {w : World} {tmps : Array Value} {u : Tmp} {t : TypeId} {b f : Nat} {v : Value} (h : tmps.getD u undef = .pointer (some ⟨b, f, none⟩)) (hl : (loadVar t ⟨b, f, none⟩).run P w = .ok v w) :
    (resVal tmps (.cell u t)).run P w = .ok v w := by
  show (do loadVar t (← asAddr (tmps.getD u undef)) : Sem Value).run P w = _
  rw [h]
  simp only [asAddr, Sem.run_bind, Sem.run_pure, Result.andThen_ok, hl]

theorem run_resTmp {P : Program} {w : World} {tmps : Array Value} {t : Tmp} : (resVal tmps (.tmp t)).run P w = .ok (tmps.getD t undef) w := rfl

theorem ResL.run {P : Program} {s : Slots} {σ : List Chunk} {G : Gh} {a : Act} {w : World} {δ : Defs} (hi : Inv G σ w) (hr : RelA G s δ a) {rs : List ResultVar} {ds : List D} (h : ResL P s σ rs ds) :
    ∃ vs : List Value, (rs.mapM (resVal a.tmps)).run P w = .ok vs w ∧ RL G.C vs ds := by
  induction h with
  | nil => exact ⟨[], rfl, .nil⟩
  | tmp hd _ ih =>
    obtain ⟨vs, h1, h2⟩ := ih
    refine ⟨_ :: vs, ?_, .cons (v := a.tmps.getD _ undef) (by rw [← hd]; exact hr.eval (.tmp _)) h2⟩
    simp only [List.mapM_cons, Sem.run_bind, run_resTmp, Sem.run_pure, Result.andThen_ok, h1]
  | cell1 hs ha hm hd _ ih =>
    obtain ⟨vs, h1, h2⟩ := ih
    rename_i t ty b f cs d rs ds _
    obtain ⟨h0, rfl⟩ := List.getElem?_eq_some_iff.mp hd
    obtain ⟨us, g2, g3⟩ := cell_of_blk hi hm
    have k1 := hr.eval (.tmp t); rw [hs] at k1; have e1 := rep_ptr k1
    have e1 : a.tmps.getD t undef = .pointer (some ⟨b, f, none⟩) := e1
    have hl : (loadVar ty ⟨b, f, none⟩).run P w = .ok (us f) w := by
      have := run_load_one (P := P) (w := w) ha (g2 f h0)
      simpa only [Instr.loadAt, Instr.sureAddr, Sem.run_bind, Sem.run_pure, Result.andThen_ok] using this
    refine ⟨us f :: vs, ?_, .cons (g3 f h0) h2⟩
    simp only [List.mapM_cons, Sem.run_bind, run_resCell e1 hl, Sem.run_pure, Result.andThen_ok, h1]
  | celln hs ha hn hm hle _ ih =>
    obtain ⟨vs, h1, h2⟩ := ih
    rename_i t ty b f n cs rs ds _
    obtain ⟨us, g2, g3⟩ := cell_of_blk hi hm
    have k1 := hr.eval (.tmp t); rw [hs] at k1; have e1 := rep_ptr k1
    have e1 : a.tmps.getD t undef = .pointer (some ⟨b, f, none⟩) := e1
    have hl : (loadVar ty ⟨b, f, none⟩).run P w = .ok (.agg ((List.range n).map fun k => us (f + k)).toArray) w := by
      have := run_load_agg (P := P) (w := w) (vs := fun k => us (f + k)) ha hn (fun k hk => g2 _ (by omega))
      simpa only [Instr.loadAt, Instr.sureAddr, Sem.run_bind, Sem.run_pure, Result.andThen_ok] using this
    refine ⟨_ :: vs, ?_, .cons (v := .agg ((List.range n).map fun k => us (f + k)).toArray) (.agg _ _ (by simp; omega) (fun k hk => ?_)) h2⟩
    · simp only [List.mapM_cons, Sem.run_bind, run_resCell e1 hl, Sem.run_pure, Result.andThen_ok, h1]
    · have hk' : k < n := by simp at hk; omega
      rw [range_getD n k _ hk', List.getElem_take, List.getElem_drop]
      exact g3 _ (by omega)

theorem ResL.len {P : Program} {s : Slots} {σ : List Chunk} {rs : List ResultVar} {ds : List D} (h : ResL P s σ rs ds) : rs.length = ds.length := by
  induction h with
  | nil => rfl
  | tmp _ _ ih => simp [ih]
  | cell1 _ _ _ _ _ ih => simp [ih]
  | celln _ _ _ _ _ _ ih => simp [ih]

theorem res_mix {P : Program} {fn : Func} {s : Slots} {σ : List Chunk} {rs : List ResultVar} {ds : List D} (h : fn.results = rs.toArray) (hn : rs.length ≠ 1) (hl : ResL P s σ rs ds) : ResD P fn s σ (.tup ds) := fun G a w hi ⟨_, hr⟩ => by
  obtain ⟨vs, h1, h2⟩ := hl.run hi hr
  have hlen : vs.length = rs.length := by
    have := h2.all.1
    have := hl.len
    omega
  refine ⟨.tuple vs.toArray, ?_, .tup _ _ h2.to.1 h2.to.2⟩
  show (do let vs ← fn.results.mapM (resVal a.tmps); pure (if h : vs.size = 1 then vs[0] else .tuple vs) : Sem Value).run P w = _
  rw [h, List.mapM_toArray]
  simp only [Sem.run_bind]
  have : ∀ (f : Sem (List Value)), f.run P w = .ok vs w → (List.toArray <$> f).run P w = .ok vs.toArray w := fun f hf => by
    rw [map_eq_pure_bind, Sem.run_bind, hf]; rfl
  rw [this _ h1]
  simp only [Result.andThen_ok, Sem.run_pure]
  rw [dif_neg (by simpa [hlen] using hn)]

/-- Results in other words. -/
theorem ResD.weaks {P : Program} {fn : Func} {s : Slots} {σ : List Chunk} {ds ds' : List D} (h : ResD P fn s σ (.tup ds)) (hw : Weaks ds ds') : ResD P fn s σ (.tup ds') := fun G a w hi hr => by
  obtain ⟨v, h1, h2⟩ := h G a w hi hr
  refine ⟨v, h1, ?_⟩
  cases h2 with
  | tup vs _ hs hv => exact .tup vs ds' (RepDs.weak ⟨hs, hv⟩ hw).1 (RepDs.weak ⟨hs, hv⟩ hw).2

/-- A list without room, handed to one who appends to it. -/
theorem spec_own_first {P : Program} {f : FuncId} {xs : List V} {ds : List D} {σ : List Chunk} {R : D → List Chunk → Prop} {Rp : List PanicEntry → List Chunk → Prop} {sz : Nat}
    (h : ∀ v, FSpecP P f (.own v xs :: ds) (.spare v sz :: σ) R Rp) : FSpecP P f (.fix xs :: ds) σ R Rp := fun G vs w hi hr => by
  have h0 := hr.2 0 (by simp)
  rw [List.getElem_cons_zero] at h0
  generalize hv : vs.getD 0 undef = v at h0
  cases h0 with
  | fix ad xs hx =>
    refine h (.slice ad xs.length xs.length) G vs w (hi.add ⟨ad, xs.length, xs.length, rfl, .inl rfl⟩ (fun b e => ?_) (fun b o e => ?_) (fun b e => ?_)) ⟨hr.1, fun k hk => ?_⟩
    · cases ad <;> simp [Chunk.b?] at e
    · cases ad <;> simp [Chunk.owns] at e
    · cases ad <;> simp [Chunk.b?] at e
    · cases k with
      | zero => rw [hv]; exact .own _ _ hx
      | succ k => exact hr.2 (k + 1) (by simpa using hk)

/-- From here on only this is known: of some things. -/
theorem sw_cutx {P : Program} {Q : Post} {s : Slots} {δ : Defs} {σ : List Chunk} {x y : Code} (I : Slots → Defs → List Chunk → Prop) (h : SW P x (thenQ (fun s1 δ1 σ1 => ∃ s' σ', SWk s1 s' ∧ Sub σ' σ1 ∧ I s' δ1 σ') Q) s δ σ)
    (k : ∀ s' δ' σ', I s' δ' σ' → SW P y Q s' δ' σ') : SW P x (thenQ (SW P y Q) Q) s δ σ := sw_mono h fun e s1 δ1 σ1 hq => by
  cases e with
  | normal =>
    obtain ⟨s', σ', h1, h2, h3⟩ := hq
    exact sw_weak h1 (sw_less h2 (k _ _ _ h3))
  | exit id => exact hq
  | goto l => exact hq
  | ret => exact hq
  | panic ch => exact hq
  | outgrown => exact hq

end Go.Proofs.YtlolmemiedhhhaaDoor.SL

/- The program logic, seventeenth part: slices that one alone holds: made, built by append, written. -/
namespace Go.Proofs.YtlolmemiedhhhaaDoor.SL
set_option linter.unusedVariables false
set_option linter.unusedSimpArgs false
open Go Go.RowKit

/-- Where such a slice lies. -/
inductive WS where
  | nil
  | blk (b c : Nat) (zs : List D)

def WS.d (n : Nat) : WS → D
  | .nil => .fix []
  | .blk b c _ => .sl b 0 n c
def WS.k (rows : List (List D)) : WS → Chunk
  | .nil => .spare (.slice none 0 0) 0
  | .blk b c zs => .blk b (rowsD rows zs)
def WS.b : WS → Nat
  | .nil => 0
  | .blk b _ _ => b
def WS.Ok (sz n : Nat) : WS → Prop
  | .nil => n = 0
  | .blk b c zs => n ≤ c ∧ zs.length = (c - n) * sz

/-- A slice of so many elements, each of so many cells, that one alone holds. -/
structure WL (sz n : Nat) where
  w : WS
  ok : w.Ok sz n

def WL.d {sz n : Nat} (x : WL sz n) : D := x.w.d n
def WL.k {sz n : Nat} (x : WL sz n) (rows : List (List D)) : Chunk := x.w.k rows
def WL.b {sz n : Nat} (x : WL sz n) : Nat := x.w.b
def WL.nil (sz : Nat) : WL sz 0 := ⟨.nil, rfl⟩
def WL.bnil : WL 1 ([] : List UInt8).length := ⟨.nil, rfl⟩

/-- A text's bytes as rows. -/
@[reducible] def brows (l : List UInt8) : List (List D) := (l.map byteV).map rowOf

theorem brows_append (l m : List UInt8) : brows l ++ (m.map byteV).map rowOf = brows (l ++ m) := by simp [brows]
theorem brows_len (l : List UInt8) : (brows l).length = l.length := by simp [brows]
theorem brows_ok (l : List UInt8) : RowsOk 1 (brows l) := rowsOk_map (fun _ => rfl)

theorem rep_rows {C : Imm} {cells : Array Value} {rows : List (List D)} {ys : List V} {a m q : Nat} (ha : rows.flatten.length = a) (hm : (ys.flatMap V.cells).length = m) (hs : cells.size = a + m + q)
    (h1 : ∀ k d, rows.flatten[k]? = some d → RepD C (cells.getD k undef) d) (h2 : ∀ k y, (ys.flatMap V.cells)[k]? = some y → RepV C (cells.getD (a + k) undef) y) :
    cells.size = (rowsD (rows ++ ys.map rowOf) (List.replicate q .junk)).length ∧ ∀ k (hk : k < (rowsD (rows ++ ys.map rowOf) (List.replicate q .junk)).length), RepD C (cells.getD k undef) (rowsD (rows ++ ys.map rowOf) (List.replicate q .junk))[k] := by
  have e : rowsD (rows ++ ys.map rowOf) (List.replicate q .junk) = rows.flatten ++ ((ys.flatMap V.cells).map D.val ++ List.replicate q .junk) := by
    rw [rowsD, List.flatten_append, rows_cells, List.append_assoc]
  have key : ∀ k d, (rows.flatten ++ ((ys.flatMap V.cells).map D.val ++ List.replicate q .junk))[k]? = some d → RepD C (cells.getD k undef) d := fun k d hd => by
    by_cases c1 : k < a
    · rw [List.getElem?_append_left (by omega)] at hd; exact h1 k d hd
    · rw [List.getElem?_append_right (by omega), ha] at hd
      by_cases c2 : k - a < m
      · rw [List.getElem?_append_left (by rw [List.length_map]; omega), List.getElem?_map] at hd
        obtain ⟨y, hy, rfl⟩ := Option.map_eq_some_iff.mp hd
        have := h2 (k - a) y hy
        rw [show a + (k - a) = k by omega] at this
        exact .val _ _ this
      · rw [List.getElem?_append_right (by rw [List.length_map]; omega)] at hd
        have := List.mem_of_getElem? hd
        rw [(List.mem_replicate.mp this).2]; exact .junk _
  refine ⟨by rw [e]; simp only [List.length_append, List.length_map, List.length_replicate]; omega, fun k hk => key k _ ?_⟩
  rw [← e]; exact List.getElem?_eq_getElem hk

/-- The heart of append to such a slice. -/
theorem append_w {σ : List Chunk} {P : Program} {G : Gh} {w : World} {t u ty e : TypeId} {d : TypeDesc} {i : TypeInfo} {z v x : Value} {rows : List (List D)} {ys : List V} {cs : Array Value} {n : Nat} (W : WL i.size n)
    (hi : Inv G (W.k rows :: σ) w) (hv : RepD G.C v W.d) (hn : rows.length = n) (hk : RowsOk i.size rows) (ht : P.underlying t = some (.slice e)) (hu : P.underlying u = some d) (hd : isInt d = false)
    (hin : P.info? e = some i) (hz : i.zero = some z) (hsz : 0 < i.size) (hb : 0 < i.bytes) (hys : Sized i.size ys)
    (hx : Src P i.size x ys.length cs w) (hcs : ∀ k y, (ys.flatMap V.cells)[k]? = some y → RepV G.C (cs.getD k undef) y) (hfit : (n + ys.length) * i.bytes ≤ 140737488355328) (hzs : z.cells.size = i.size) :
    ∃ v' w', ∃ W' : WL i.size (n + ys.length), (Builtin.append_ #[t, u] ty #[v, x]).run P w = .ok v' w' ∧ Inv G (W'.k (rows ++ ys.map rowOf) :: σ) w' ∧ RepD G.C v' W'.d := by
  have hs' : szOf P e = some i.size := by simp [szOf, hin]
  have hflat : (ys.flatMap V.cells).length = ys.length * i.size := (flat_get (fun y hy => (hys y hy).1)).1
  have hrl := rows_flat_len hk
  have hcsz := hx.size
  -- a new block, with these cells ahead
  have fresh : ∀ (c : Nat) (a : Option Addr) (old : Array Value), c < n + ys.length → old.size = n * i.size → (∀ w' : World, w'.heap = w.heap → (Builtin.firstCells i.size n (.slice a n c)).run P w' = .ok old w') →
      (∀ k d, rows.flatten[k]? = some d → RepD G.C (old.getD k undef) d) → v = .slice a n c →
      ∃ v' w', ∃ W' : WL i.size (n + ys.length), (Builtin.append_ #[t, u] ty #[v, x]).run P w = .ok v' w' ∧ Inv G (W'.k (rows ++ ys.map rowOf) :: σ) w' ∧ RepD G.C v' W'.d := fun c a old hlt hos hold hrep hva => by
    have hrun := run_append_out (ty := ty) (n := n) (c := c) (a := a) ht hu hd hin hz hx (s := .slice a n c) rfl hold hlt hfit hb
    have hge : n + ys.length ≤ grownCap w (n + ys.length) c e := grownCap_ge
    generalize hcap : grownCap w (n + ys.length) c e = cap at hrun hge
    have hlen : ∀ k, k < old.size → (old ++ cs ++ Builtin.zeroCells z.cells (cap - (n + ys.length))).getD k undef = old.getD k undef := fun k h => by
      simp only [Array.getD_eq_getD_getElem?]
      rw [Array.getElem?_append_left (by simp only [Array.size_append]; omega), Array.getElem?_append_left h]
    have hreps := rep_rows (C := G.C) (cells := old ++ cs ++ Builtin.zeroCells z.cells (cap - (n + ys.length))) (q := (cap - (n + ys.length)) * i.size) hrl hflat
      (by simp only [Array.size_append, Builtin.zeroCells, Array.size_map, Array.size_range, hzs, hos, hcsz, hn])
      (fun k d hkd => by
        have hlt := (List.getElem?_eq_some_iff.mp hkd).1
        rw [hlen k (by rw [hos, ← hn, ← hrl]; exact hlt)]; exact hrep k d hkd)
      (fun k y hy => by
        have hlt := (List.getElem?_eq_some_iff.mp hy).1
        have := hcs k y hy
        simp only [Array.getD_eq_getD_getElem?] at this ⊢
        rw [Array.getElem?_append_left (by simp only [Array.size_append, hos, hcsz, hn]; omega), Array.getElem?_append_right (by rw [hos, hn]; omega), hos, hn, Nat.add_sub_cancel_left]
        exact this)
    refine ⟨_, _, ⟨.blk w.heap.size cap (List.replicate ((cap - (n + ys.length)) * i.size) .junk), ⟨hge, by simp⟩⟩, by rw [hva]; exact hrun, hi.drop.drew.alloc hreps.1 hreps.2, .sl _ _ _ _⟩
  obtain ⟨wsp, hok⟩ := W
  cases wsp with
  | nil =>
    have h0 : n = 0 := hok
    subst h0
    have hr0 : rows = [] := List.eq_nil_of_length_eq_zero hn
    subst hr0
    change RepD G.C v (.fix []) at hv
    cases hv with
    | fix ad _ r1 =>
      by_cases hnil : ys = []
      · subst hnil
        have hcz : cs.toList = [] := by
          simp only [List.length_nil, Nat.zero_mul] at hcsz
          exact List.eq_nil_of_length_eq_zero (by simpa using hcsz)
        have := run_append_in (P := P) (w := w) (w' := w) (ty := ty) (a := ad) (n := 0) (c := 0) ht hu hd hs' hx (Nat.le_refl _) (fun b _ => by rw [hcz]; rfl) (fun _ => rfl)
        refine ⟨.slice ad 0 0, w, ⟨.nil, rfl⟩, this, hi, .fix ad [] r1⟩
      · have hpos : 0 < ys.length := List.length_pos_iff.mpr hnil
        refine fresh 0 ad #[] (by omega) (by simp) (fun w' _ => ?_) (fun k d h => by simp at h) rfl
        cases ad with
        | none => exact run_firstCells_none ..
        | some b => simp [Builtin.firstCells, Nat.zero_mul, loadCells, loadCellsFrom]
  | blk b c zs =>
    obtain ⟨hle, hzl⟩ : n ≤ c ∧ zs.length = (c - n) * i.size := hok
    have hva := rep_sl (show RepD G.C v (.sl b 0 n c) from hv)
    obtain ⟨cs0, bty, fz, hblk, hfz, hsize, hrep⟩ := (show (Chunk.blk b (rowsD rows zs)).holds G.C w from hi.holds _ (List.mem_cons_self ..))
    have hcn : c * i.size = n * i.size + (c - n) * i.size := by rw [← Nat.add_mul]; congr 1; omega
    have hsz0 : cs0.size = c * i.size := by rw [hsize, rows_len hk, hn, hzl, hcn]
    have hrow : ∀ k d, rows.flatten[k]? = some d → RepD G.C (cs0.getD k undef) d := fun k d hkd => by
      obtain ⟨hlt, rfl⟩ := List.getElem?_eq_some_iff.mp hkd
      have hlt2 : k < (rowsD rows zs).length := by rw [rowsD, List.length_append]; omega
      have := hrep k hlt2
      simp only [rowsD] at this
      rw [List.getElem_append_left hlt] at this; exact this
    by_cases hin' : n + ys.length ≤ c
    · -- in its place
      have hmul : (n + ys.length) * i.size ≤ c * i.size := Nat.mul_le_mul_right _ hin'
      rw [Nat.add_mul] at hmul
      have hone : ∀ v ∈ cs.toList, v.oneCell' = true := by
        intro v hv
        obtain ⟨k, hk, rfl⟩ := List.getElem_of_mem hv
        have hk1 : k < cs.size := by simpa using hk
        have hk2 : k < (ys.flatMap V.cells).length := by omega
        have := hcs k _ (List.getElem?_eq_getElem hk2)
        simp only [Array.getD_eq_getD_getElem?, Array.getElem?_eq_getElem hk1, Option.getD_some] at this
        simpa using flat_cell (fun z hz => (hys z hz).2) this (List.getElem_mem hk2)
      have hfl : cs.toList.length = ys.length * i.size := by rw [Array.length_toList, hcsz]
      obtain ⟨w', cs', g1, g2, g3, g4, g5, g6, g7, g8, g9, g10⟩ := run_storeCells (P := P) cs.toList 0 w b (n * i.size) cs0 bty fz hblk hfz (by omega) hone
      simp only [Nat.add_zero] at g4 g5
      have hrun := run_append_in (P := P) (w := w) (w' := w') (ty := ty) (a := some ⟨b, 0, none⟩) (n := n) (c := c) ht hu hd hs' hx hin' (fun b' hb' => by cases hb'; rw [addr_add, Nat.zero_add]; exact g1) (fun h => by cases h)
      have hcc : c * i.size = (n + ys.length) * i.size + (c - (n + ys.length)) * i.size := by rw [← Nat.add_mul]; congr 1; omega
      have hreps := rep_rows (C := G.C) (cells := cs') (q := (c - (n + ys.length)) * i.size) hrl hflat (by rw [g3, hsz0, hn, hcc, Nat.add_mul])
        (fun k d hkd => by
          have hlt := (List.getElem?_eq_some_iff.mp hkd).1
          rw [hrl, hn] at hlt
          rw [g5 k (.inl hlt)]; exact hrow k d hkd)
        (fun k y hy => by
          have hlt := (List.getElem?_eq_some_iff.mp hy).1
          rw [hn, g4 k (by omega)]
          have := hcs k y hy
          simpa [List.getD] using this)
      refine ⟨_, w', ⟨.blk b c (List.replicate ((c - (n + ys.length)) * i.size) .junk), ⟨hin', by simp⟩⟩, by rw [hva]; exact hrun, ?_, .sl _ _ _ _⟩
      refine hi.change (c := .blk b (rowsD rows zs)) (c' := .blk b (rowsD (rows ++ ys.map rowOf) (List.replicate ((c - (n + ys.length)) * i.size) .junk))) rfl (fun x e => by simpa [Chunk.b?] using e.symm) G.le_refl (fun x o v hv => .inl hv) g6 g7 g8 g9 g10
        (fun o v hv => by rw [hi.apart (.blk b (rowsD rows zs)) (List.mem_cons_self ..) b o rfl] at hv; cases hv) ⟨cs', bty, fz, g2, by rw [g3]; exact hfz, hreps.1, hreps.2⟩
        (fun x o e => hi.apart (.blk b (rowsD rows zs)) (List.mem_cons_self ..) x o e) (fun t0 c0 f0 h0 => by rw [hblk] at h0; cases h0; exact ⟨_, _, g2, g3⟩)
    · -- elsewhere
      have hnc : n * i.size ≤ c * i.size := Nat.mul_le_mul_right _ hle
      refine fresh c (some ⟨b, 0, none⟩) (((List.range (n * i.size)).map fun k => cs0.getD k undef).toArray) (by omega) (by simp) (fun w' hw => ?_) (fun k d hkd => ?_) hva
      · show (loadCells ⟨b, 0, none⟩ (n * i.size)).run P w' = _
        refine run_loadCells w' _ _ (fun k => cs0.getD k undef) (fun j hj => ?_)
        have hj' : j < cs0.size := by omega
        rw [addr_add, Nat.zero_add]
        simp only [World.cell?, hw, hblk, Array.getD_eq_getD_getElem?, Array.getElem?_eq_getElem hj', Option.getD_some]
        rfl
      · have hlt := (List.getElem?_eq_some_iff.mp hkd).1
        rw [hrl, hn] at hlt
        rw [range_getD _ _ _ hlt]; exact hrow k d hkd

/-- The zero rows of a slice that is made. -/
theorem flat_replicate {ds : List D} : ∀ (n k : Nat), k < n * ds.length → (List.replicate n ds).flatten[k]? = ds[k % ds.length]?
  | 0, k, h => by simp at h
  | n + 1, k, h => by
    rw [List.replicate_succ, List.flatten_cons]
    by_cases c : k < ds.length
    · rw [List.getElem?_append_left c, Nat.mod_eq_of_lt c]
    · rw [Nat.add_mul] at h
      rw [List.getElem?_append_right (by omega), flat_replicate n (k - ds.length) (by omega), Nat.mod_eq_sub_mod (a := k) (by omega)]

section rules
variable {P : Program} {ops : Array Oper} {Q : Post} {s : Slots} {δ : Defs} {σ : List Chunk} {K : Exacts} {o : Oper} {rest : List Oper}

/-- append to a slice that one alone holds. -/
theorem sl_app_w {t u e : TypeId} {x y : Operand} {ys : List V} {sz bytes n n' : Nat} {rows rows' : List (List D)} {σ' : List Chunk} (W : WL sz n) (hg : o.guard = none) (ho : o.op = .call { callee := .builtin .append, args := #[x, y], argTypes := #[t, u] })
    (hx : evalO s x = W.d) (hy : (evalO s y).asList = some ys) (ht : P.underlying t = some (.slice e)) (hu : ∃ d, P.underlying u = some d ∧ isInt d = false)
    (he : elOf P e = some (sz, bytes)) (hp : Pick (W.k rows) σ σ') (hn : rows.length = n) (hk : RowsOk sz rows) (hys : SzI sz ys) (hfit : (n + ys.length) * bytes ≤ 140737488355328) (hn' : n + ys.length = n') (hr' : rows ++ ys.map rowOf = rows')
    (c : ∀ W' : WL sz n', SL P ops rest Q (sput s o.dst W'.d) δ (W'.k rows' :: σ')) : SL P ops (o :: rest) Q s δ σ :=
  sl_front hp (sl_op hg fun G a w hi hr => by
    subst hn'; subst hr'
    obtain ⟨⟨i, z, h1, h2, rfl, rfl, h3⟩, h4, h5⟩ := elOf_ok he
    obtain ⟨d, hd1, hd2⟩ := hu
    have r1 := hr.eval x; rw [hx] at r1
    obtain ⟨cs, hsrc, hcs⟩ := src_of_list (P := P) hi (asList_rep (hr.eval y) hy) (fun y hy => (hys.get y hy).1)
    obtain ⟨v', w', W', g1, g2, g3⟩ := append_w (ty := o.type) W hi r1 hn hk ht hd1 hd2 h1 h2 h4 h5 hys.get hsrc hcs hfit h3
    refine ⟨v', w', G, W'.d, _, run_call_builtin ho ?_, G.le_refl, g2, g3, c W'⟩
    simp only [builtin, List.map_toArray, List.map_cons, List.map_nil, Sem.run_bind, g1, Result.andThen_ok, Sem.run_pure])

/-- append of a text to a slice of bytes that one alone holds. -/
theorem sl_app_w_str {t u e : TypeId} {x y : Operand} {l m m' : List UInt8} {bytes : Nat} {σ' : List Chunk} (W : WL 1 m.length) (hg : o.guard = none) (ho : o.op = .call { callee := .builtin .append, args := #[x, y], argTypes := #[t, u] })
    (hx : evalO s x = W.d) (hy : evalO s y = .val (.str l)) (ht : P.underlying t = some (.slice e)) (hu : P.underlying u = some .string)
    (he : elOf P e = some (1, bytes)) (hp : Pick (W.k (brows m)) σ σ') (hfit : (m.length + l.length) * bytes ≤ 140737488355328) (hm : m ++ l = m')
    (c : ∀ W' : WL 1 m'.length, SL P ops rest Q (sput s o.dst W'.d) δ (W'.k (brows m') :: σ')) : SL P ops (o :: rest) Q s δ σ :=
  sl_front hp (sl_op hg fun G a w hi hr => by
    subst hm
    obtain ⟨⟨i, z, h1, h2, h6, rfl, h3⟩, h4, h5⟩ := elOf_ok he
    have r1 := hr.eval x; rw [hx] at r1
    have r2 := hr.eval y; rw [hy] at r2; obtain ⟨t1, e2, rfl⟩ := rep_str r2
    obtain ⟨cs, hsrc, hcs⟩ := src_of_str (P := P) (w := w) (C := G.C) t1
    rw [← h6] at hsrc h3
    have hsz1 : Sized i.size (t1.data.toList.map byteV) := fun y hy => by rw [h6]; exact byteV_cells _ y hy
    have key : ∀ (q : Nat) (h : i.size = q) (W0 : WL q m.length), Inv G (W0.k (brows m) :: σ') w → RepD G.C (a.eval x) W0.d →
        ∃ v' w', ∃ W' : WL q (m.length + (t1.data.toList.map byteV).length), (Builtin.append_ #[t, u] o.type #[a.eval x, .string t1]).run P w = .ok v' w' ∧ Inv G (W'.k (brows m ++ (t1.data.toList.map byteV).map rowOf) :: σ') w' ∧ RepD G.C v' W'.d := fun q h W0 hi0 hr0 => by
      subst h
      exact append_w (ty := o.type) W0 hi0 hr0 (brows_len m) (by rw [h6]; exact brows_ok m) ht hu rfl h1 h2 (by omega) h5 hsz1 (by simpa only [List.length_map] using hsrc) hcs (by simpa only [List.length_map] using hfit) h3
    obtain ⟨v', w', W', g1, g2, g3⟩ := key 1 h6 W hi r1
    have hlen : m.length + (t1.data.toList.map byteV).length = (m ++ t1.data.toList).length := by simp
    have fin : ∀ (q : Nat) (h : q = (m ++ t1.data.toList).length) (W' : WL 1 q), Inv G (W'.k (brows (m ++ t1.data.toList)) :: σ') w' → RepD G.C v' W'.d →
        ∃ d σ'', Inv G σ'' w' ∧ RepD G.C v' d ∧ SL P ops rest Q (sput s o.dst d) δ σ'' := fun q h W' h1 h2 => by
      subst h; exact ⟨_, _, h1, h2, c W'⟩
    rw [brows_append] at g2
    obtain ⟨d, σ'', f1, f2, f3⟩ := fin _ hlen W' g2 g3
    refine ⟨v', w', G, d, σ'', run_call_builtin ho ?_, G.le_refl, f1, f2, f3⟩
    simp only [builtin, List.map_toArray, List.map_cons, List.map_nil, Sem.run_bind, e2, g1, Result.andThen_ok, Sem.run_pure])

theorem byteV_inj : ∀ {l m : List UInt8}, l.map byteV = m.map byteV → l = m
  | [], [], _ => rfl
  | [], y :: m, h => by simp at h
  | x :: l, [], h => by simp at h
  | x :: l, y :: m, h => by
    simp only [List.map_cons, List.cons.injEq] at h
    have h1 : x = y := by
      have := h.1
      simp only [byteV, V.int.injEq, true_and] at this
      exact UInt8.toNat_inj.mp (by omega)
    rw [h1, byteV_inj h.2]

theorem sl_app_b {t u e : TypeId} {x y : Operand} {ys : List V} {bytes : Nat} {m m' : List UInt8} {σ' : List Chunk} (W : WL 1 m.length) (hg : o.guard = none) (ho : o.op = .call { callee := .builtin .append, args := #[x, y], argTypes := #[t, u] })
    (hx : evalO s x = W.d) (hy : (evalO s y).asList = some ys) (ht : P.underlying t = some (.slice e)) (hu : ∃ d, P.underlying u = some d ∧ isInt d = false)
    (he : elOf P e = some (1, bytes)) (hp : Pick (W.k (brows m)) σ σ') (hys : SzI 1 ys) (hfit : ((m.map byteV).length + ys.length) * bytes ≤ 140737488355328) (hz : m.map byteV ++ ys = m'.map byteV)
    (c : ∀ W' : WL 1 m'.length, SL P ops rest Q (sput s o.dst W'.d) δ (W'.k (brows m') :: σ')) : SL P ops (o :: rest) Q s δ σ :=
  sl_app_w W hg ho hx hy ht hu he hp (brows_len m) (brows_ok m) hys (by simpa using hfit) (by have := congrArg List.length hz; simpa using this) (by rw [brows, ← List.map_append, hz]) c

theorem sl_app_bs {t u e : TypeId} {x y : Operand} {l m m' : List UInt8} {bytes : Nat} {σ' : List Chunk} (W : WL 1 m.length) (hg : o.guard = none) (ho : o.op = .call { callee := .builtin .append, args := #[x, y], argTypes := #[t, u] })
    (hx : evalO s x = W.d) (hy : evalO s y = .val (.str l)) (ht : P.underlying t = some (.slice e)) (hu : P.underlying u = some .string)
    (he : elOf P e = some (1, bytes)) (hp : Pick (W.k (brows m)) σ σ') (hfit : ((m.map byteV).length + l.length) * bytes ≤ 140737488355328) (hz : m.map byteV ++ l.map byteV = m'.map byteV)
    (c : ∀ W' : WL 1 m'.length, SL P ops rest Q (sput s o.dst W'.d) δ (W'.k (brows m') :: σ')) : SL P ops (o :: rest) Q s δ σ :=
  sl_app_w_str W hg ho hx hy ht hu he hp (by simpa using hfit) (byteV_inj (by rw [List.map_append]; exact hz)) c

theorem wl_len {C : Imm} {v : Value} {sz n : Nat} {W : WL sz n} (r : RepD C v W.d) : ∃ a c, v = .slice a n c := by
  obtain ⟨w, ok⟩ := W
  cases w with
  | nil =>
    have h0 : n = 0 := ok
    subst h0
    cases (show RepD C v (.fix []) from r) with
    | fix ad _ _ => exact ⟨ad, 0, rfl⟩
  | blk b c zs => exact ⟨_, _, rep_sl (show RepD C v (.sl b 0 n c) from r)⟩

theorem sl_len_w {t : TypeId} {x : Operand} {sz n : Nat} (W : WL sz n) (hg : o.guard = none) (ho : o.op = .call { callee := .builtin .len, args := #[x], argTypes := #[t] })
    (hx : evalO s x = W.d) (ht : ∃ e, P.underlying t = some (.slice e)) (k : SL P ops rest Q (sput s o.dst (.val (.int .i64 n))) δ σ) : SL P ops (o :: rest) Q s δ σ :=
  sl_pure hg (fun G a w hi hr => by
    obtain ⟨e, he⟩ := ht
    have h1 := hr.eval x; rw [hx] at h1; obtain ⟨ad, c, hv⟩ := wl_len h1
    refine ⟨_, run_call_builtin ho ?_, rep_bin (.int _ _)⟩
    simp only [builtin, List.map_toArray, List.map_cons, List.map_nil, Builtin.len_, Sem.run_bind, hv]
    simp only [List.getElem?_toArray, List.getElem?_cons_zero, Sem.run_bind, run_under he, Result.andThen_ok, Sem.run_pure, goInt]) k

theorem pu_len_w {t : TypeId} {x : Operand} {sz n : Nat} (W : WL sz n) (ho : o.op = .call { callee := .builtin .len, args := #[x], argTypes := #[t] })
    (hx : evalO s x = W.d) (ht : ∃ e, P.underlying t = some (.slice e)) : PureOp P K s δ o (.val (.int .i64 n)) := fun G a hr => by
  obtain ⟨e, he⟩ := ht
  have h1 := hr.eval x; rw [hx] at h1; obtain ⟨ad, c, hv⟩ := wl_len h1
  refine ⟨_, rep_bin (.int _ _), fun w _ => run_call_builtin ho ?_⟩
  simp only [builtin, List.map_toArray, List.map_cons, List.map_nil, Builtin.len_, Sem.run_bind, hv]
  simp only [List.getElem?_toArray, List.getElem?_cons_zero, Sem.run_bind, run_under he, Result.andThen_ok, Sem.run_pure, goInt]

theorem wl_blk {sz n j : Nat} (W : WL sz n) (h : j < n) : ∃ b c zs, W.w = .blk b c zs := by
  obtain ⟨w, ok⟩ := W
  cases w with
  | nil => have h0 : n = 0 := ok; omega
  | blk b c zs => exact ⟨b, c, zs, rfl⟩

theorem sl_index_w {t e : TypeId} {x i : Operand} {k : IntKind} {sz n : Nat} (W : WL sz n) (j : Nat) (hg : o.guard = none) (ho : o.op = .indexAddr t x i)
    (hx : evalO s x = W.d) (hn : evalO s i = .val (.int k (j : Int))) (ht : P.underlying t = some (.slice e)) (hs : szOf P e = some sz) (hlt : j < n)
    (kk : SL P ops rest Q (sput s o.dst (.ptr W.b (j * sz))) δ σ) : SL P ops (o :: rest) Q s δ σ := by
  obtain ⟨b, c, zs, hw⟩ := wl_blk W hlt
  have hd : W.d = .sl b 0 n c := by rw [WL.d, hw]; rfl
  have hb : W.b = b := by rw [WL.b, hw]; rfl
  rw [hb] at kk
  exact sl_index_sl j hg ho (hx.trans hd) hn ht hs hlt kk

theorem sl_load_w1 {t : TypeId} {x : Operand} {sz n : Nat} {rows : List (List D)} {r : List D} {d : D} (W : WL sz n) (i off : Nat) (hg : o.guard = none) (ho : o.op = .load t x) (hx : evalO s x = .ptr W.b (i * sz + off))
    (ht : aggOf P t = some false) (hm : W.k rows ∈ σ) (hn : rows.length = n) (hk : RowsOk sz rows) (hr : rows[i]? = some r) (hd : r[off]? = some d)
    (c : SL P ops rest Q (sput s o.dst d) δ σ) : SL P ops (o :: rest) Q s δ σ := by
  obtain ⟨b, cp, zs, hw⟩ := wl_blk W (j := i) (by rw [← hn]; exact (List.getElem?_eq_some_iff.mp hr).1)
  have hb : W.b = b := by rw [WL.b, hw]; rfl
  have hkk : W.k rows = .blk b (rowsD rows zs) := by rw [WL.k, hw]; rfl
  exact sl_load_row1 i off hg ho (hx.trans (by rw [hb])) ht (hkk ▸ hm) hk hr hd c

theorem sl_load_wn {t : TypeId} {x : Operand} {sz n q : Nat} {rows : List (List D)} {r : List D} (W : WL sz n) (i off : Nat) (hg : o.guard = none) (ho : o.op = .load t x) (hx : evalO s x = .ptr W.b (i * sz + off))
    (ht : aggOf P t = some true) (hq : szOf P t = some q) (hm : W.k rows ∈ σ) (hn : rows.length = n) (hk : RowsOk sz rows) (hr : rows[i]? = some r) (hle : off + q ≤ sz)
    (c : SL P ops rest Q (sput s o.dst (.agg ((r.drop off).take q))) δ σ) : SL P ops (o :: rest) Q s δ σ := by
  obtain ⟨b, cp, zs, hw⟩ := wl_blk W (j := i) (by rw [← hn]; exact (List.getElem?_eq_some_iff.mp hr).1)
  have hb : W.b = b := by rw [WL.b, hw]; rfl
  have hkk : W.k rows = .blk b (rowsD rows zs) := by rw [WL.k, hw]; rfl
  exact sl_load_rown i off hg ho (hx.trans (by rw [hb])) ht hq (hkk ▸ hm) hk hr hle c

theorem sl_store_w {t : TypeId} {x y : Operand} {sz n q : Nat} {rows rows' : List (List D)} {r : List D} {d : D} {σ' : List Chunk} (W : WL sz n) (i off : Nat) (hg : o.guard = none) (ho : o.op = .store t x y) (hx : evalO s x = .ptr W.b (i * sz + off)) (hd : opd s y = some d)
    (hq : szOf P t = some q) (hkn : d.known = true) (hc : d.cells.all D.cell = true) (hl : d.cells.length = q) (hp : Pick (W.k rows) σ σ') (hn : rows.length = n) (hk : RowsOk sz rows) (hr : rows[i]? = some r) (hle : off + q ≤ sz) (he : rows.set i (putAt r off d.cells) = rows')
    (c : SL P ops rest Q (sput s o.dst .junk) δ (W.k rows' :: σ')) : SL P ops (o :: rest) Q s δ σ := by
  obtain ⟨b, cp, zs, hw⟩ := wl_blk W (j := i) (by rw [← hn]; exact (List.getElem?_eq_some_iff.mp hr).1)
  have hb : W.b = b := by rw [WL.b, hw]; rfl
  have hkk : ∀ rows, W.k rows = .blk b (rowsD rows zs) := fun rows => by rw [WL.k, hw]; rfl
  rw [hkk] at hp c
  exact sl_store_rowp i off hg ho (hx.trans (by rw [hb])) hd hq hkn hc hl hp hk hr hle he c

/-- make. -/
theorem sl_make {t e : TypeId} {x y : Operand} {k k' : IntKind} {n sz bytes : Nat} {ds : List D} (hg : o.guard = none) (ho : o.op = .makeSlice t x y) (hx : evalO s x = .val (.int k (n : Int))) (hy : evalO s y = .val (.int k' (n : Int)))
    (ht : P.underlying t = some (.slice e)) (he : elOf P e = some (sz, bytes)) (hz : zeroDs P e = some ds) (hl : ds.length = sz) (hfit : bytes * n ≤ 140737488355328)
    (c : ∀ W : WL sz n, SL P ops rest Q (sput s o.dst W.d) δ (W.k (List.replicate n ds) :: σ)) : SL P ops (o :: rest) Q s δ σ :=
  sl_op hg fun G a w hi hr => by
    obtain ⟨⟨i, z, h1, h2, h6, h7, h3⟩, h4, h5⟩ := elOf_ok he
    obtain ⟨z', hz1, hz2⟩ := zero_cells hz
    have hzz : z' = z := by
      have : zeroOf P e = some z := by simp [zeroOf, h1, h2]
      rw [this] at hz1; exact (Option.some.inj hz1).symm
    subst hzz
    obtain ⟨hz3, hz4⟩ := hz2 G.C
    have r1 := hr.eval x; rw [hx] at r1; have e1 := rep_int r1
    have r2 := hr.eval y; rw [hy] at r2; have e2 := rep_int r2
    have hn : n ≤ 140737488355328 := Nat.le_trans (Nat.le_mul_of_pos_left _ h5) hfit
    have hb : (i.bytes : Int) * (n : Int) ≤ 281474976710656 := by
      have h : ((i.bytes * n : Nat) : Int) ≤ 281474976710656 := by rw [h7]; omega
      rwa [Int.natCast_mul] at h
    have hrun := run_make (P := P) w t e i z' ht h1 h2 k k' n n (by omega) (Int.le_refl _) hb (by omega)
    simp only [Int.toNat_natCast] at hrun
    rw [h6] at hrun
    have hlen : (rowsD (List.replicate n ds) []).length = n * sz := by
      rw [rowsD, List.append_nil, rows_flat_len (sz := sz) (fun r h => by rw [(List.mem_replicate.mp h).2, hl]), List.length_replicate]
    have hcell : ∀ k (hk : k < (rowsD (List.replicate n ds) []).length), RepD G.C ((madeCells z'.cells (n * sz)).getD k undef) (rowsD (List.replicate n ds) [])[k] := fun k hk => by
      have hk1 : k < n * ds.length := by rw [hl, ← hlen]; exact hk
      have hpos : 0 < ds.length := by omega
      have hm : k % ds.length < ds.length := Nat.mod_lt _ hpos
      have h8 := flat_replicate n k hk1
      rw [List.getElem?_eq_getElem hm] at h8
      have h9 : (rowsD (List.replicate n ds) [])[k]? = some ds[k % ds.length] := by rw [rowsD, List.append_nil]; exact h8
      rw [List.getElem?_eq_getElem hk] at h9
      rw [Option.some.inj h9]
      have h10 := hz4 (k % ds.length) hm
      have hm2 : k % ds.length < z'.cells.size := by rw [hz3]; exact hm
      have : (madeCells z'.cells (n * sz)).getD k undef = z'.cells.getD (k % ds.length) undef := by
        have hk2 : k < n * sz := by rw [← hl]; exact hk1
        simp only [madeCells, Array.getD_eq_getD_getElem?, Array.getElem?_map, Array.getElem?_range, hk2, if_true, Option.map_some, Option.getD_some, hz3, Array.getElem?_eq_getElem hm2]
        exact getElem!_pos z'.cells _ hm2
      rw [this]; exact h10
    refine ⟨_, _, G, (⟨.blk w.heap.size n [], ⟨Nat.le_refl _, by simp⟩⟩ : WL sz n).d, _, ?_, G.le_refl, hi.alloc (ty := e) (by rw [size_madeCells, hlen]) hcell, .sl _ _ _ _, c ⟨.blk w.heap.size n [], ⟨Nat.le_refl _, by simp⟩⟩⟩
    simp only [execOp, ho, e1, e2, Sem.run_bind, hrun, Result.andThen_ok, Sem.run_pure]

theorem wl_freeze {G : Gh} {sz n : Nat} {W : WL sz n} {ys : List V} {w : World} (hi : Inv G (W.k (ys.map rowOf) :: σ) w) (hn : ys.length = n) (hsz : ∀ y ∈ ys, y.cells.length = sz) :
    ∃ G', G.le G' ∧ Inv G' σ w ∧ ∀ v, RepD G'.C v W.d → RepD G'.C v (.val (.list ys)) := by
  obtain ⟨ws, ok⟩ := W
  cases ws with
  | nil =>
    have h0 : n = 0 := ok
    have hy : ys = [] := List.eq_nil_of_length_eq_zero (by omega)
    subst hy
    refine ⟨G, G.le_refl, hi.drop, fun v hv => ?_⟩
    cases (show RepD G.C v (.fix []) from hv) with
    | fix ad _ h => exact .val _ _ h
  | blk b c zs =>
    obtain ⟨hle0, _⟩ : n ≤ c ∧ zs.length = (c - n) * sz := ok
    obtain ⟨cs, ty, fz, h, h1, h2, h3⟩ := (show (Chunk.blk b (rowsD (ys.map rowOf) zs)).holds G.C w from hi.holds _ (List.mem_cons_self ..))
    obtain ⟨hle, hi'⟩ := (show Inv G (.blk b (rowsD (ys.map rowOf) zs) :: σ) w from hi).freeze h
    have hrows := rows_cells ys
    have hflat := (flat_get hsz).1
    have hlen : cs.size = ys.length * sz + zs.length := by rw [h2, rowsD, List.length_append, hrows, List.length_map, hflat]
    refine ⟨_, hle, hi', fun v hv => ?_⟩
    have hvv := rep_sl (show RepD (G.freeze b cs).C v (.sl b 0 n c) from hv)
    rw [hvv, ← hn]
    refine .val _ _ (list_of_flat (cs := cs) hsz (by omega) (fun k hk => ?_) (fun k y hy => ?_))
    · show (if b = b then cs[0 + k]? else _) = _
      have hk' : k < cs.size := by omega
      rw [if_pos rfl, Nat.zero_add, Array.getElem?_eq_getElem hk', Array.getD_eq_getD_getElem?, Array.getElem?_eq_getElem hk']; rfl
    · obtain ⟨hk, hy⟩ := List.getElem?_eq_some_iff.mp hy
      have hk2 : k < (rowsD (ys.map rowOf) zs).length := by rw [rowsD, List.length_append, hrows, List.length_map]; omega
      have := h3 k hk2
      simp only [rowsD, hrows] at this
      rw [List.getElem_append_left (by simpa using hk), List.getElem_map, hy] at this
      rw [Nat.zero_add]
      exact (toV_rep this _ rfl).mono hle.2

/-- A slice that one alone held becomes immutable. -/
theorem sw_freeze_w {code : Code} {sz n t : Nat} {ys : List V} {σ' : List Chunk} (W : WL sz n) (hs : s.get t = W.d) (hp : Pick (W.k (ys.map rowOf)) σ σ') (hn : ys.length = n) (hsz : SzI sz ys)
    (k : SW P code Q (sput s (some t) (.val (.list ys))) δ σ') : SW P code Q s δ σ := fun G a w hi hr => by
  obtain ⟨G', hle, hi', hv⟩ := wl_freeze (hi.pick hp) hn (fun y hy => (hsz.get y hy).1)
  refine wp_mono (k _ a w hi' ?_) fun e a w l => l.mono hle
  exact (hr.mono hle).recast t fun v r => hv v (hs ▸ r)

theorem sl_freeze_w {sz n t : Nat} {ys : List V} {σ' : List Chunk} (W : WL sz n) (hs : s.get t = W.d) (hp : Pick (W.k (ys.map rowOf)) σ σ') (hn : ys.length = n) (hsz : SzI sz ys)
    (k : SL P ops rest Q (sput s (some t) (.val (.list ys))) δ σ') : SL P ops rest Q s δ σ := fun G a w hi hr => by
  obtain ⟨G', hle, hi', hv⟩ := wl_freeze (hi.pick hp) hn (fun y hy => (hsz.get y hy).1)
  refine SL.use hle k hi' ?_
  exact (hr.mono hle).recast t fun v r => hv v (hs ▸ r)

theorem dummy_inv {G : Gh} {w : World} (hi : Inv G σ w) : Inv G (.spare (.slice none 0 0) 0 :: σ) w :=
  hi.add ⟨none, 0, 0, rfl, .inl rfl⟩ (fun b e => by simp [Chunk.b?] at e) (fun b o e => by simp [Chunk.owns] at e) (fun b e => by simp [Chunk.b?] at e)

theorem sw_dummy {code : Code} (k : SW P code Q s δ (.spare (.slice none 0 0) 0 :: σ)) : SW P code Q s δ σ := fun G a w hi hr => k G a w (dummy_inv hi) hr
theorem sl_dummy (k : SL P ops rest Q s δ (.spare (.slice none 0 0) 0 :: σ)) : SL P ops rest Q s δ σ := fun G a w hi hr => k G a w (dummy_inv hi) hr

end rules

/-- One more chunk, that holds nothing. -/
theorem spec_dummy {P : Program} {f : FuncId} {ds : List D} {σ : List Chunk} {R : D → List Chunk → Prop} {Rp : List PanicEntry → List Chunk → Prop} (h : FSpecP P f ds (.spare (.slice none 0 0) 0 :: σ) R Rp) : FSpecP P f ds σ R Rp := fun G vs w hi hr =>
  h G vs w (hi.add ⟨none, 0, 0, rfl, .inl rfl⟩ (fun b e => by simp [Chunk.b?] at e) (fun b o e => by simp [Chunk.owns] at e) (fun b e => by simp [Chunk.b?] at e)) hr

end Go.Proofs.YtlolmemiedhhhaaDoor.SL

/- The program logic, eighteenth part: functions without a body. -/
namespace Go.Proofs.YtlolmemiedhhhaaDoor.SL
set_option linter.unusedVariables false
set_option linter.unusedSimpArgs false
open Go Go.RowKit

section rules
variable {P : Program} {ops : Array Oper} {Q : Post} {s : Slots} {δ : Defs} {σ : List Chunk} {K : Exacts} {o : Oper} {rest : List Oper}

/-- bytealg.IndexByteString. -/
theorem sl_index_byte {x y : Operand} {at' : Array TypeId} {f : FuncId} {fn : Func} {l : List UInt8} {c : UInt8} (hg : o.guard = none) (ho : o.op = .call { callee := .value (.func f), args := #[x, y], argTypes := at' })
    (hx : evalO s x = .val (.str l)) (hy : evalO s y = .val (byteV c)) (hf : P.funcs[f]? = some fn) (h1 : (fn.name == "runtime.NumGoroutine") = false) (h2 : fn.body.isNone = true)
    (h3 : Extern.findNext fn = none) (h4 : Extern.find fn = some Extern.BytealgIndexByte.indexByte)
    (k : SL P ops rest Q (sput s o.dst (.val (.int .i64 (Lib.indexByte l c)))) δ σ) : SL P ops (o :: rest) Q s δ σ :=
  sl_pure hg (fun G a w hi hr => by
    have r1 := hr.eval x; rw [hx] at r1; obtain ⟨t1, e1, rfl⟩ := rep_str r1
    have r2 := hr.eval y; rw [hy] at r2; have e2 := rep_int r2
    refine ⟨_, ?_, rep_bin (.int _ _)⟩
    have hc := run_callFunc_extern hf h1 h2 h3 h4 #[.string t1, .int .u8 (c.toNat : Int)] w
    rw [Lib.run_indexByteString] at hc
    have hcc : (c.toNat : Int).toNat.toUInt8 = c := by simp
    rw [hcc] at hc
    have ef : a.eval (.func f) = .func (.func f) #[] #[] := rfl
    simp only [execOp, ho, resolve, ef, Deferred.ofValue, Sem.run_bind, Sem.run_pure, Result.andThen_ok, invoke, List.map_toArray, List.map_cons, List.map_nil, e1, e2, Array.append_empty, Array.empty_append, hc]) k

/-- Where a byte stands; -1: nowhere. -/
theorem index_byte_ge (l : List UInt8) (c : UInt8) : (decide (Lib.indexByte l c ≥ 0)) = l.contains c := by
  have key : ∀ l : List UInt8, (Lib.indexByte l c = -1 ∧ l.contains c = false) ∨ (0 ≤ Lib.indexByte l c ∧ l.contains c = true) := by
    intro l
    induction l with
    | nil => exact .inl ⟨rfl, rfl⟩
    | cons b l ih =>
      simp only [Lib.indexByte, List.contains_cons]
      by_cases h : b = c
      · subst h; simp
      · have h1 : (b == c) = false := by simpa using h
        have h2 : (c == b) = false := by simpa using fun e => h e.symm
        rw [h1, h2]
        rcases ih with ⟨i1, i2⟩ | ⟨i1, i2⟩
        · rw [i1, i2]; exact .inl ⟨by simp, by simp⟩
        · have h3 : (Lib.indexByte l c == -1) = false := by rw [beq_eq_false_iff_ne]; omega
          rw [h3, i2]
          simp only [Bool.false_eq_true, if_false, Bool.or_true]
          exact .inr ⟨by omega, trivial⟩
  rcases key l with ⟨h1, h2⟩ | ⟨h1, h2⟩
  · rw [h1, h2]; rfl
  · rw [h2]; exact decide_eq_true h1

end rules
end Go.Proofs.YtlolmemiedhhhaaDoor.SL

/- The program logic, nineteenth part: calls that leave what is owned as it is; operations of a region that come in whatever order, with one end. -/
namespace Go.Proofs.YtlolmemiedhhhaaDoor.SL
set_option linter.unusedVariables false
set_option linter.unusedSimpArgs false
open Go Go.RowKit

section rules
variable {P : Program} {ops : Array Oper} {Q : Post} {s : Slots} {δ : Defs} {σ : List Chunk} {K : Exacts} {o : Oper} {rest : List Oper} {fuel : Nat} {listed : Array Bool}

/-- A call that leaves one datum, and what is owned as it is. -/
theorem sl_callp {l : List Operand} {at' : Array TypeId} {f : FuncId} {ds : List D} {d0 : D} (hg : o.guard = none)
    (ho : o.op = .call { callee := .value (.func f), args := l.toArray, argTypes := at' }) (hc : callable P f = true)
    (hs : ∀ σ, FSpec P f ds σ fun d σ' => d = d0 ∧ σ' = σ) (hw : Weaks (l.map (evalO s)) ds)
    (k : SL P ops rest Q (sput s o.dst d0) δ σ) : SL P ops (o :: rest) Q s δ σ :=
  sl_callf hg ho hc (hs σ) hw (Sub.refl σ) (fun d σ' h => by obtain ⟨rfl, rfl⟩ := h; exact k) (fun _ _ h => h.elim)

theorem pu_min {K : Exacts} {x y : Operand} {at' : Array TypeId} {k : IntKind} {m n : Int} (ho : o.op = .call { callee := .builtin .min, args := #[x, y], argTypes := at' })
    (hx : evalO s x = .val (.int k m)) (hy : evalO s y = .val (.int k n)) : PureOp P K s δ o (.val (.int k (if n < m then n else m))) := fun G a hr => by
  have h1 := hr.eval x; rw [hx] at h1; have h1 := rep_int h1
  have h2 := hr.eval y; rw [hy] at h2; have h2 := rep_int h2
  refine ⟨_, rep_bin (.int _ _), fun w _ => run_call_builtin ho ?_⟩
  simp [builtin, Builtin.min_, h1, h2, Builtin.min2]

theorem pu_bool_ne {K : Exacts} {t t' : TypeId} {x y : Operand} {m n : Bool} (ho : o.op = .binOp .neq t x y t')
    (hx : evalO s x = .val (.bool m)) (hy : evalO s y = .val (.bool n)) (ht : P.underlying t = some .bool) : PureOp P K s δ o (.val (.bool (!(m == n)))) := fun G a hr => by
  have h1 := hr.eval x; rw [hx] at h1; have h1 := rep_bool h1
  have h2 := hr.eval y; rw [hy] at h2; have h2 := rep_bool h2
  exact ⟨_, rep_bin (.bool _), fun w _ => run_execBin ho (by rw [h1, h2]; exact run_guard_bool ..) (by rw [h1, h2]; exact run_neq_bool P w t m n ht)⟩

theorem ite_min (m n : Int) : (if n < m then n else m) = min m n := by split <;> omega
theorem ite_max (m n : Int) : (if m < n then n else m) = max m n := by split <;> omega

/-- A block of pure data that is not written any more: its slot reads as a pointer to the datum. -/
theorem sw_fz {code : Code} (t : Nat) {b : Nat} {ds : List D} {xs : List V} {σ' : List Chunk} (hs : s.get t = .ptr b 0) (hx : toVs ds = some xs) (hp : Pick (.blk b ds) σ σ')
    (k : SW P code Q (sput s (some t) (.rp xs)) δ σ') : SW P code Q s δ σ := fun G a w hi0 hr => by
  have hi := hi0.pick hp
  obtain ⟨cs, ty, fz, h, h1, h2, h3⟩ := hi.holds _ (List.mem_cons_self ..)
  obtain ⟨hle, hi'⟩ := hi.freeze h
  obtain ⟨h4, h5⟩ := toVs_rep h2 h3 hx
  have hrel : RelA (G.freeze b cs) (sput s (some t) (.rp xs)) δ a := (hr.mono hle).recast t fun v r => by
    rw [hs] at r
    have e := rep_ptr r
    subst e
    refine .rp b 0 xs (fun k => cs.getD k undef) (fun k hk => ?_) (fun k hk => (h5 k hk).mono hle.2)
    show (if b = b then cs[0 + k]? else _) = _
    rw [if_pos rfl, Nat.zero_add, Array.getElem?_eq_getElem (by omega), Array.getD_eq_getD_getElem?, Array.getElem?_eq_getElem (by omega)]
    rfl
  exact wp_mono (k _ a w hi' hrel) fun e a w l => l.mono hle

/-! ### Whatever order, one end -/

/-- One of the operations: it leaves a datum (what it needs of the others: their places), or a new block. -/
inductive TE where
  | p (i : Nat) (t : Option Tmp) (deps : List Nat) (d : D)
  | n (i : Nat) (t : Tmp) (zs : List D)

def TE.i : TE → Nat
  | .p i _ _ _ => i
  | .n i _ _ => i
def TE.t : TE → Option Tmp
  | .p _ t _ _ => t
  | .n _ t _ => some t
def TE.deps : TE → List Nat
  | .p _ _ e _ => e
  | .n _ _ _ => []
def TE.d : TE → Nat → D
  | .p _ _ _ d, _ => d
  | .n _ _ _, b => .ptr b 0
def TE.x : TE → Nat → List Chunk
  | .p _ _ _ _, _ => []
  | .n _ _ zs, b => [.blk b zs]

def TE.none : TE := .p 0 Option.none [] .junk
def nth (T : List TE) (k : Nat) : TE := T.getD k TE.none

def puts (T : List TE) (β : Nat → Nat) (s : Slots) : List Nat → Slots
  | [] => s
  | j :: js => puts T β (sput s (nth T j).t ((nth T j).d (β j))) js

/-- What an operation does, whatever else has come ahead of it. -/
inductive StepOk (P : Program) (ops : Array Oper) (δ : Defs) (σ : List Chunk) (s : Slots) (T : List TE) : TE → Prop
  | p {i : Nat} {t : Option Tmp} {deps : List Nat} {d : D} {o : Oper} (ho : ops[i]? = some o) (ht : o.dst = t) (hj : (t.map s.get).getD .junk = .junk)
      (h : ∀ β σ', (∀ c ∈ σ, c ∈ σ') → SL P ops [o] (fun e s' δ' σ'' => e = .normal ∧ s' = sput (puts T β s deps) t d ∧ δ' = δ ∧ σ'' = σ') (puts T β s deps) δ σ') : StepOk P ops δ σ s T (.p i t deps d)
  | n {i : Nat} {t : Tmp} {zs : List D} {o : Oper} (ho : ops[i]? = some o) (ht : o.dst = some t) (hj : s.get t = .junk)
      (h : ∀ σ', SL P ops [o] (fun e s' δ' σ'' => e = .normal ∧ ∃ b, s' = sput s (some t) (.ptr b 0) ∧ δ' = δ ∧ σ'' = .blk b zs :: σ') s δ σ') : StepOk P ops δ σ s T (.n i t zs)

inductive StepsOk (P : Program) (ops : Array Oper) (δ : Defs) (σ : List Chunk) (s : Slots) (T : List TE) : List TE → Prop
  | nil : StepsOk P ops δ σ s T []
  | cons {x : TE} {U : List TE} (h : StepOk P ops δ σ s T x) (hr : StepsOk P ops δ σ s T U) : StepsOk P ops δ σ s T (x :: U)

theorem StepsOk.get {T : List TE} : ∀ {U : List TE}, StepsOk P ops δ σ s T U → ∀ k, k < U.length → StepOk P ops δ σ s T (nth U k)
  | _, .cons h hr, 0, _ => h
  | _, .cons h hr, k + 1, hk => hr.get k (by simpa using hk)

theorem wpOp_framed {i : Nat} {a : Act} {w : World} {R R' : Exit → Act → World → Prop} {X : Act → World → Prop} (ho : ops[i]? = some o) (h : wpList P ops R [o] a w)
    (hR : ∀ e a w, R e a w → e = .normal ∧ X a w) (hd : ∀ a' w', X a' w' → a'.defers.length = a.defers.length) :
    wpOp P ops R' i (fun a' w' => X a' w' ∧ ∃ v, a' = a.put o.dst v) a w := by
  unfold wpOp
  simp only [ho]
  unfold wpList at h
  have key : o.wp P a w (wpList P ops R []) R → o.wp P a w (fun a' w' => X a' w' ∧ ∃ v, a' = a.put o.dst v) R' := by
    intro hh
    unfold Oper.wp at *
    generalize (execOp a.eval o).run P w = r at *
    cases r with
    | ok n w' =>
      cases n <;> simp only [Oper.upon] at hh ⊢
      case value v => exact ⟨(hR _ _ _ hh).2, v, rfl⟩
      case skip => exact ⟨(hR _ _ _ hh).2, _, rfl⟩
      case defer d =>
        exfalso
        have h1 := hd _ _ (hR _ _ _ hh).2
        have h2 : (({ a with defers := d :: a.defers } : Act).put o.dst undef).defers = d :: a.defers := by cases o.dst <;> rfl
        rw [h2] at h1
        simp at h1
      case enter f args =>
        exact Calls.mono hh fun e w'' he => by
          cases e with
          | returned v => exact ⟨(hR _ _ _ he).2, v, rfl⟩
          | panicked ch => exact absurd (hR _ _ _ he).1 (by simp)
          | outgrown => obtain ⟨a0, w0, h0⟩ := he; exact absurd (hR _ _ _ h0).1 (by simp)
      case row row args => exact Rows.mono hh fun v _ he => ⟨(hR _ _ _ he).2, v, rfl⟩
    | halt x w' =>
      cases x <;> simp only [Oper.upon] at hh ⊢
      case panic v => exact absurd (hR _ _ _ hh).1 (by simp)
  split at h <;> rename_i hw
  · rw [if_pos hw]
    rcases h with h | ⟨h1, a0, w0, h2⟩
    · exact .inl (key h)
    · exact absurd (hR _ _ _ h2).1 (by simp)
  · rw [if_neg hw]; exact ⟨(hR _ _ _ h).2, _, rfl⟩

theorem act_put_defers (a : Act) (t : Option Tmp) (v : Value) : (a.put t v).defers = a.defers := by cases t <;> rfl

/-- The state when some have come. -/
structure RelM (G : Gh) (s : Slots) (δ : Defs) (T : List TE) (β : Nat → Nat) (m : List Bool) (a : Act) : Prop where
  size : a.tmps.size = s.n
  old : ∀ t, t < s.n → (∀ k, k < T.length → (nth T k).t ≠ some t) → RepD G.C (a.tmps.getD t undef) (s.get t)
  new : ∀ k t, k < T.length → m.getD k false = true → (nth T k).t = some t → t < s.n → RepD G.C (a.tmps.getD t undef) ((nth T k).d (β k))
  defs : a.defers.length = δ.length
  defd : ∀ k (hk : k < δ.length), ∃ cap args, a.defers[k]? = some { target := .fn (.func (δ[k]).1) cap, args := args } ∧
    (args ++ cap).size = (δ[k]).2.length ∧ ∀ j (hj : j < (δ[k]).2.length), RepD G.C ((args ++ cap).getD j undef) ((δ[k]).2[j])

def Fresh (s : Slots) (T : List TE) : Prop := ∀ k, k < T.length → ∀ t, (nth T k).t = some t → s.get t = .junk

theorem StepOk.fresh {T : List TE} {x : TE} (h : StepOk P ops δ σ s T x) : ∀ t, x.t = some t → s.get t = .junk := by
  intro t ht
  cases h with
  | p ho h1 hj h => have : _ = some t := ht; subst this; exact hj
  | n ho h1 hj h => have : some _ = some t := ht; cases this; exact hj

theorem StepsOk.fresh {T : List TE} (h : StepsOk P ops δ σ s T T) : Fresh s T := fun k hk => (h.get k hk).fresh

theorem RelA.more {G : Gh} {s : Slots} {a : Act} (r : RelA G s δ a) (t : Option Tmp) {d : D} (h : ∀ x, t = some x → x < s.n → RepD G.C (a.tmps.getD x undef) d) : RelA G (sput s t d) δ a := by
  cases t with
  | none => exact r
  | some t =>
    refine ⟨r.size, fun k hk => ?_, r.defs, r.defd⟩
    rw [get_put]
    have hk : k < s.n := hk
    split
    · rename_i e; subst e; exact h _ rfl hk
    · exact r.slot k hk

theorem sput_n (s : Slots) (t : Option Tmp) (d : D) : (sput s t d).n = s.n := by cases t <;> rfl

theorem RelM.base {G : Gh} {T : List TE} {β : Nat → Nat} {m : List Bool} {a : Act} (h : RelM G s δ T β m a) (hf : Fresh s T) : RelA G s δ a :=
  ⟨h.size, fun t ht => by
    by_cases e : ∃ k, k < T.length ∧ (nth T k).t = some t
    · obtain ⟨k, hk, e⟩ := e; rw [hf k hk t e]; exact .junk _
    · exact h.old t ht fun k hk e' => e ⟨k, hk, e'⟩, h.defs, h.defd⟩

theorem RelM.some {G : Gh} {T : List TE} {β : Nat → Nat} {m : List Bool} {a : Act} (h : RelM G s δ T β m a) :
    ∀ (js : List Nat) (s' : Slots), s'.n = s.n → (∀ j ∈ js, j < T.length ∧ m.getD j false = true) → RelA G s' δ a → RelA G (puts T β s' js) δ a
  | [], _, _, _, r => r
  | j :: js, s', hn, hj, r => by
    unfold puts
    refine h.some js _ (by rw [sput_n]; exact hn) (fun i hi => hj i (by simp [hi])) (r.more _ fun x hx hlt => ?_)
    exact h.new j x (hj j (by simp)).1 (hj j (by simp)).2 hx (hn ▸ hlt)

def putsF (β : Nat → Nat) : List TE → Nat → Slots → Slots
  | [], _, s => s
  | x :: T, j, s => putsF β T (j + 1) (sput s x.t (x.d (β j)))

def chsM (β : Nat → Nat) (m : List Bool) : List TE → Nat → List Chunk → List Chunk
  | [], _, σ => σ
  | x :: T, j, σ => chsM β m T (j + 1) (if m.getD j false = true then x.x (β j) ++ σ else σ)

theorem RelM.all {G : Gh} {T : List TE} {β : Nat → Nat} {m : List Bool} {a : Act} (h : RelM G s δ T β m a) (hm : ∀ k, k < T.length → m.getD k false = true) :
    ∀ (U : List TE) (j : Nat) (s' : Slots), (∀ i, nth U i = nth T (i + j)) → U.length + j = T.length → s'.n = s.n → RelA G s' δ a → RelA G (putsF β U j s') δ a
  | [], _, _, _, _, _, r => r
  | x :: U, j, s', hU, hl, hn, r => by
    unfold putsF
    have hx : nth T j = x := by have := hU 0; simpa [nth] using this.symm
    simp only [List.length_cons] at hl
    refine h.all hm U (j + 1) _ (fun i => by have := hU (i + 1); rw [show i + (j + 1) = i + 1 + j by omega, ← this]; rfl) (by omega) (by rw [sput_n]; exact hn) (r.more _ fun t ht hlt => ?_)
    have := h.new j t (by omega) (hm j (by omega)) (by rw [hx]; exact ht) (hn ▸ hlt)
    rw [hx] at this; exact this

theorem chsM_perm (β : Nat → Nat) (m : List Bool) : ∀ (T : List TE) (j : Nat) (xs σ : List Chunk), (chsM β m T j (xs ++ σ)).Perm (xs ++ chsM β m T j σ)
  | [], _, _, _ => .refl _
  | x :: T, j, xs, σ => by
    unfold chsM
    split
    · have h1 := chsM_perm β m T (j + 1) (x.x (β j)) (xs ++ σ)
      have h2 := chsM_perm β m T (j + 1) xs σ
      have h3 := chsM_perm β m T (j + 1) (x.x (β j)) σ
      refine h1.trans ?_
      refine (h2.append_left _).trans ?_
      rw [← List.append_assoc]
      refine ((List.perm_append_comm).append_right _).trans ?_
      rw [List.append_assoc]
      exact h3.symm.append_left _
    · exact chsM_perm β m T (j + 1) xs σ

theorem chsM_congr {β β' : Nat → Nat} {m m' : List Bool} : ∀ (T : List TE) (j : Nat) (σ : List Chunk), (∀ i, j ≤ i → β i = β' i ∧ m.getD i false = m'.getD i false) → chsM β m T j σ = chsM β' m' T j σ
  | [], _, _, _ => rfl
  | x :: T, j, σ, h => by
    unfold chsM
    rw [(h j (Nat.le_refl _)).1, (h j (Nat.le_refl _)).2]
    exact chsM_congr T (j + 1) _ fun i hi => h i (by omega)

theorem getD_set (m : List Bool) (k i : Nat) (hk : k < m.length) : (m.set k true).getD i false = if k = i then true else m.getD i false := by
  simp only [List.getD_eq_getElem?_getD, List.getElem?_set]
  split
  · subst_vars; simp [hk]
  · rfl

theorem chsM_set {β : Nat → Nat} {m : List Bool} {b k : Nat} : ∀ (T : List TE) (j : Nat) (σ : List Chunk), j ≤ k → k < j + T.length → k < m.length → m.getD k false = false →
    ((nth T (k - j)).x b ++ chsM β m T j σ).Perm (chsM (fun i => if i = k then b else β i) (m.set k true) T j σ)
  | [], j, σ, h1, h2, _, _ => absurd h2 (by simp; omega)
  | x :: T, j, σ, h1, h2, h3, h4 => by
    unfold chsM
    by_cases e : j = k
    · subst e
      rw [getD_set _ _ _ h3, if_pos rfl, if_pos rfl, h4, if_neg (by simp), Nat.sub_self, if_pos rfl]
      have hc : chsM (fun i => if i = j then b else β i) (m.set j true) T (j + 1) (x.x b ++ σ) = chsM β m T (j + 1) (x.x b ++ σ) :=
        chsM_congr T (j + 1) _ fun i hi => ⟨if_neg (by omega), by rw [getD_set _ _ _ h3, if_neg (by omega)]⟩
      rw [hc]
      exact (chsM_perm β m T (j + 1) (x.x b) σ).symm
    · have hm1 : (m.set k true).getD j false = m.getD j false := by rw [getD_set _ _ _ h3, if_neg (fun e' => e e'.symm)]
      simp only [hm1, if_neg e]
      have hn : nth (x :: T) (k - j) = nth T (k - (j + 1)) := by
        rw [show k - j = (k - (j + 1)) + 1 by omega]; rfl
      rw [hn]
      exact chsM_set T (j + 1) _ (by omega) (by simp only [List.length_cons] at h2; omega) h3 h4

theorem chsM_mem {β : Nat → Nat} {m : List Bool} : ∀ (T : List TE) (j : Nat) {σ : List Chunk} {c : Chunk}, c ∈ σ → c ∈ chsM β m T j σ
  | [], _, _, _, h => h
  | x :: T, j, σ, c, h => by
    unfold chsM
    apply chsM_mem T
    split
    · exact List.mem_append_right _ h
    · exact h

theorem chsM_none {β : Nat → Nat} {m : List Bool} (hm : ∀ i, m.getD i false = false) : ∀ (T : List TE) (j : Nat) (σ : List Chunk), chsM β m T j σ = σ
  | [], _, _ => rfl
  | x :: T, j, σ => by unfold chsM; rw [hm j, if_neg (by simp)]; exact chsM_none hm T _ _

/-- What is left when all have come. -/
def contT (P : Program) (ops : Array Oper) (fuel : Nat) (L : Array Bool) (Q : Post) (δ : Defs) (K : Exacts) : List TE → Slots → List Chunk → Prop
  | [], s, σ => SA P ops fuel L Q s δ σ K
  | .p _ t _ d :: T, s, σ => contT P ops fuel L Q δ K T (sput s t d) σ
  | .n _ t zs :: T, s, σ => ∀ b, contT P ops fuel L Q δ K T (sput s (some t) (.ptr b 0)) (.blk b zs :: σ)

theorem contT_p {L : Array Bool} {T : List TE} {i : Nat} {t : Option Tmp} {deps : List Nat} {d : D} (h : contT P ops fuel L Q δ K T (sput s t d) σ) : contT P ops fuel L Q δ K (.p i t deps d :: T) s σ := h
theorem contT_n {L : Array Bool} {T : List TE} {i : Nat} {t : Tmp} {zs : List D} (h : ∀ b, contT P ops fuel L Q δ K T (sput s (some t) (.ptr b 0)) (.blk b zs :: σ)) : contT P ops fuel L Q δ K (.n i t zs :: T) s σ := h
theorem contT_nil {L : Array Bool} (h : SA P ops fuel L Q s δ σ K) : contT P ops fuel L Q δ K [] s σ := h

theorem contT_all {L : Array Bool} {β : Nat → Nat} {m : List Bool} : ∀ (T : List TE) (j : Nat) (s : Slots) (σ : List Chunk), (∀ i, j ≤ i → i < j + T.length → m.getD i false = true) → contT P ops fuel L Q δ K T s σ →
    SA P ops fuel L Q (putsF β T j s) δ (chsM β m T j σ) K
  | [], _, _, _, _, h => h
  | .p i t deps d :: T, j, s, σ, hm, h => by
    unfold putsF chsM
    rw [hm j (Nat.le_refl _) (by simp), if_pos rfl]
    exact contT_all T (j + 1) _ _ (fun i h1 h2 => hm i (by omega) (by simp only [List.length_cons]; omega)) h
  | .n i t zs :: T, j, s, σ, hm, h => by
    unfold putsF chsM
    rw [hm j (Nat.le_refl _) (by simp), if_pos rfl]
    exact contT_all T (j + 1) _ _ (fun i h1 h2 => hm i (by omega) (by simp only [List.length_cons]; omega)) (h _)

/-! The check: at each point that may be come to, what may come next is one of them, and what it needs has come. -/

def lsOf : List (Nat × List Nat) → List Bool → Array Bool → Array Bool
  | (i, _) :: I, b :: m, L => lsOf I m (if b then L.setIfInBounds i true else L)
  | _, _, L => L

def allMasks : Nat → List (List Bool)
  | 0 => [[]]
  | n + 1 => (allMasks n).flatMap fun m => [false :: m, true :: m]

def keyOf (I : List (Nat × List Nat)) (k : Nat) : Nat × List Nat := I.getD k (0, [])

def closedB (I : List (Nat × List Nat)) (m : List Bool) : Bool := (List.range I.length).all fun k => !m.getD k false || (keyOf I k).2.all fun j => m.getD j false

def okAt (ops : Array Oper) (listed : Array Bool) (I : List (Nat × List Nat)) (m : List Bool) : Bool :=
  let R := Region.ready .any ops (lsOf I m listed)
  m.all id || (!R.isEmpty && R.all fun i => (List.range I.length).any fun k => (keyOf I k).1 == i && (!m.getD k false && (keyOf I k).2.all fun j => m.getD j false))

def confOk (ops : Array Oper) (listed : Array Bool) (I : List (Nat × List Nat)) : Bool := (allMasks I.length).all fun m => !closedB I m || okAt ops listed I m

theorem mem_allMasks : ∀ (m : List Bool), m ∈ allMasks m.length
  | [] => by simp [allMasks]
  | b :: m => by
    simp only [List.length_cons, allMasks, List.mem_flatMap]
    exact ⟨m, mem_allMasks m, by cases b <;> simp⟩

theorem set_comm_true (L : Array Bool) (i j : Nat) : (L.setIfInBounds i true).setIfInBounds j true = (L.setIfInBounds j true).setIfInBounds i true := by
  apply Array.ext_getElem?
  intro k
  simp only [Array.getElem?_setIfInBounds, Array.size_setIfInBounds]
  by_cases h1 : j = k <;> by_cases h2 : i = k <;> simp_all

theorem set_twice_true (L : Array Bool) (i : Nat) : (L.setIfInBounds i true).setIfInBounds i true = L.setIfInBounds i true := by
  apply Array.ext_getElem?
  intro k
  simp only [Array.getElem?_setIfInBounds, Array.size_setIfInBounds]
  by_cases h2 : i = k <;> simp_all

theorem lsOf_put : ∀ (I : List (Nat × List Nat)) (m : List Bool) (L : Array Bool) (i : Nat), lsOf I m (L.setIfInBounds i true) = (lsOf I m L).setIfInBounds i true
  | [], _, _, _ => by simp [lsOf]
  | _ :: _, [], _, _ => by simp [lsOf]
  | (j, _) :: I, b :: m, L, i => by
    cases b with
    | false => exact lsOf_put I m L i
    | true =>
      show lsOf I m ((L.setIfInBounds i true).setIfInBounds j true) = _
      rw [set_comm_true]
      exact lsOf_put I m _ i

theorem lsOf_set : ∀ (I : List (Nat × List Nat)) (m : List Bool) (L : Array Bool) (k : Nat), m.length = I.length → k < I.length → lsOf I (m.set k true) L = (lsOf I m L).setIfInBounds (keyOf I k).1 true
  | [], _, _, _, _, h => absurd h (by simp)
  | _ :: _, [], _, _, h, _ => absurd h (by simp)
  | (i, e) :: I, b :: m, L, 0, _, _ => by
    cases b with
    | false => exact lsOf_put I m L i
    | true =>
      show lsOf I m (L.setIfInBounds i true) = (lsOf I m (L.setIfInBounds i true)).setIfInBounds i true
      rw [← lsOf_put, set_twice_true]
  | (i, e) :: I, b :: m, L, k + 1, h1, h2 => by
    show lsOf I (m.set k true) _ = _
    rw [lsOf_set I m _ k (by simpa using h1) (by simpa using h2)]
    rfl

def fcnt : List Bool → Nat
  | [] => 0
  | b :: m => (if b then 0 else 1) + fcnt m

theorem fcnt_zero : ∀ {m : List Bool}, fcnt m = 0 → ∀ k, k < m.length → m.getD k false = true
  | [], _, k, h => absurd h (by simp)
  | b :: m, h, 0, _ => by cases b with | false => simp [fcnt] at h | true => rfl
  | b :: m, h, k + 1, hk => fcnt_zero (m := m) (by unfold fcnt at h; omega) k (by simpa using hk)

theorem fcnt_set : ∀ {m : List Bool} {k : Nat}, k < m.length → m.getD k false = false → fcnt m = fcnt (m.set k true) + 1
  | [], _, h, _ => absurd h (by simp)
  | b :: m, 0, _, h => by have : b = false := h; subst this; simp [fcnt]; omega
  | b :: m, k + 1, h1, h2 => by
    have := fcnt_set (m := m) (k := k) (by simpa using h1) h2
    show _ + fcnt m = _ + fcnt (m.set k true) + 1
    omega

theorem fcnt_rep (n : Nat) : fcnt (List.replicate n false) = n := by
  induction n with
  | zero => rfl
  | succ n ih => rw [List.replicate_succ]; unfold fcnt; rw [ih]; simp; omega

theorem not_all {m : List Bool} (h : fcnt m ≠ 0) : m.all id = false := by
  induction m with
  | nil => exact absurd rfl h
  | cons b m ih =>
    cases b with
    | false => rfl
    | true => simp only [List.all_cons, id, Bool.true_and]; exact ih (by unfold fcnt at h; simpa using h)

theorem lsOf_rep : ∀ (I : List (Nat × List Nat)) (L : Array Bool), lsOf I (List.replicate I.length false) L = L
  | [], _ => rfl
  | (i, e) :: I, L => lsOf_rep I L

theorem exacts_mono {σ' : List Chunk} (hs : ∀ c ∈ σ, c ∈ σ') {K : Exacts} (h : ExactsOf K σ) : ExactsOf K σ' := by
  induction h with
  | nil => exact .nil
  | cons h1 h2 h3 _ ih => exact .cons (hs _ h1) h2 h3 (ih hs)

def keys (T : List TE) : List (Nat × List Nat) := T.map fun x => (x.i, x.deps)

theorem keyOf_keys (T : List TE) (k : Nat) (hk : k < T.length) : keyOf (keys T) k = ((nth T k).i, (nth T k).deps) := by
  simp [keyOf, keys, nth, List.getD_eq_getElem?_getD, hk]

theorem conf_run {T : List TE} (hd : (T.filterMap TE.t).Nodup) (hc : confOk ops listed (keys T) = true) (hs : StepsOk P ops δ σ s T T) (hK : ExactsOf K σ) (m0 : List Bool)
    (h : ∀ β m, (∀ i, i < T.length → m.getD i false = true) → SA P ops fuel (lsOf (keys T) m0 listed) Q (putsF β T 0 s) δ (chsM β m T 0 σ) K)
    (hm0 : m0 = List.replicate T.length true) :
    ∀ (r : Nat) (m : List Bool), m.length = T.length → fcnt m = r → (∀ k, k < T.length → m.getD k false = true → ∀ j ∈ (nth T k).deps, m.getD j false = true) →
      ∀ G a w β, Inv G (chsM β m T 0 σ) w → RelM G s δ T β m a → wpAnyH P .any ops (Lift G Q) (Kept G.C K) (fuel + r) (lsOf (keys T) m listed) a w := by
  have hfr := hs.fresh
  have hlen : (keys T).length = T.length := by simp [keys]
  intro r
  induction r with
  | zero =>
    intro m hm hr hcl G a w β hi hrel
    have ha := fcnt_zero hr
    have hmm : m = m0 := by
      rw [hm0]
      apply List.ext_getElem (by simp [hm])
      intro k h1 h2
      have := ha k h1
      rw [List.getD_eq_getElem?_getD, List.getElem?_eq_getElem h1] at this
      simpa using this
    have ha' : ∀ i, i < T.length → m.getD i false = true := fun i hi' => ha i (by omega)
    have := h β m ha' G a w hi (hrel.all ha' T 0 s (fun _ => rfl) rfl rfl (hrel.base hfr))
    rw [hmm]; exact this
  | succ r ih =>
    intro m hm hr hcl G a w β hi hrel
    have hok : okAt ops listed (keys T) m = true := by
      have h1 := List.all_eq_true.mp hc m (by rw [hlen, ← hm]; exact mem_allMasks m)
      have h2 : closedB (keys T) m = true := by
        unfold closedB
        rw [List.all_eq_true]
        intro k hk
        rw [hlen, List.mem_range] at hk
        rw [keyOf_keys T k hk]
        cases e : m.getD k false with
        | false => rfl
        | true =>
          simp only [Bool.not_true, Bool.false_or, List.all_eq_true]
          exact hcl k hk e
      rw [h2] at h1
      simpa using h1
    unfold okAt at hok
    rw [not_all (by rw [hr]; simp)] at hok
    simp only [Bool.false_or, Bool.and_eq_true, List.all_eq_true, List.any_eq_true, List.mem_range, beq_iff_eq, Bool.not_eq_true', List.isEmpty_eq_false_iff] at hok
    refine wpAnyH_all rfl hok.1 fun i hi' => ?_
    obtain ⟨k, hk, e1, e2, e3⟩ := hok.2 i hi'
    rw [hlen] at hk
    rw [keyOf_keys T k hk] at e1 e3
    subst e1
    simp only at e3
    have hst := hs.get k hk
    have hsub : ∀ c ∈ σ, c ∈ chsM β m T 0 σ := fun c hc => chsM_mem T 0 hc
    have hdeps : RelA G (puts T β s (nth T k).deps) δ a := hrel.some _ s rfl (fun j hj => ⟨by
      rcases Nat.lt_or_ge j T.length with h' | h'
      · exact h'
      · exfalso
        have h9 := e3 j hj
        rw [List.getD_eq_getElem?_getD, List.getElem?_eq_none (by omega)] at h9
        simp at h9, e3 j hj⟩) (hrel.base hfr)
    -- what the operation does
    obtain ⟨o, ho, hdst, hwp⟩ : ∃ o, ops[(nth T k).i]? = some o ∧ o.dst = (nth T k).t ∧ wpOp P ops (Lift G Q) (nth T k).i (fun a' w' => (∃ G' b, G.le G' ∧ Inv G' ((nth T k).x b ++ chsM β m T 0 σ) w' ∧ a'.tmps.size = s.n ∧
        (∀ t, (nth T k).t = some t → t < s.n → RepD G'.C (a'.tmps.getD t undef) ((nth T k).d b)) ∧ a'.defers.length = δ.length) ∧ ∃ v, a' = a.put (nth T k).t v) a w := by
      generalize nth T k = x at hst hdeps
      cases hst with
      | @p i t deps d o ho ht hj h' =>
        refine ⟨o, ho, ht, ?_⟩
        have hsl := h' β (chsM β m T 0 σ) hsub G a w hi hdeps
        have := wpOp_framed (R' := Lift G Q) (X := fun a' w' => ∃ G' b, G.le G' ∧ Inv G' ((TE.p i t deps d).x b ++ chsM β m T 0 σ) w' ∧ a'.tmps.size = s.n ∧
          (∀ t', t = some t' → t' < s.n → RepD G'.C (a'.tmps.getD t' undef) ((TE.p i t deps d).d b)) ∧ a'.defers.length = δ.length) ho hsl (fun e a' w' hl => ?_) (fun a' w' hx => ?_)
        · rw [ht] at this; exact this
        · obtain ⟨G', s', δ', σ', g1, g2, g3, g4, g5, g6, g7⟩ := hl
          subst g4 g5 g6 g7
          have hn : (sput (puts T β s deps) t d).n = s.n := by
            rw [sput_n]
            have := hdeps.size; rw [hrel.size] at this; exact this.symm
          refine ⟨rfl, G', 0, g1, g2, by rw [g3.size, hn], fun t' e' hlt => ?_, g3.defs⟩
          subst e'
          have := g3.slot t' (by rw [hn]; exact hlt)
          rw [get_put, if_pos rfl] at this
          exact this
        · obtain ⟨_, _, _, _, _, _, h9⟩ := hx
          rw [h9, hrel.defs]
      | @n i t zs o ho ht hj h' =>
        refine ⟨o, ho, ht, ?_⟩
        have hsl := h' (chsM β m T 0 σ) G a w hi (hrel.base hfr)
        have := wpOp_framed (R' := Lift G Q) (X := fun a' w' => ∃ G' b, G.le G' ∧ Inv G' ((TE.n i t zs).x b ++ chsM β m T 0 σ) w' ∧ a'.tmps.size = s.n ∧
          (∀ t', some t = some t' → t' < s.n → RepD G'.C (a'.tmps.getD t' undef) ((TE.n i t zs).d b)) ∧ a'.defers.length = δ.length) ho hsl (fun e a' w' hl => ?_) (fun a' w' hx => ?_)
        · rw [ht] at this; exact this
        · obtain ⟨G', s', δ', σ', g1, g2, g3, g4, b, g5, g6, g7⟩ := hl
          subst g4 g5 g6 g7
          refine ⟨rfl, G', b, g1, g2, by rw [g3.size, sput_n], fun t' e' hlt => ?_, g3.defs⟩
          cases e'
          have := g3.slot t (by rw [sput_n]; exact hlt)
          rw [get_put, if_pos rfl] at this
          exact this
        · obtain ⟨_, _, _, _, _, _, h9⟩ := hx
          rw [h9, hrel.defs]
    refine wpOp_mono (fun a' w' hh => ?_) hwp
    obtain ⟨⟨G', b, g1, g2, g3, g4, g5⟩, v, rfl⟩ := hh
    have hinv : Inv G' (chsM (fun i => if i = k then b else β i) (m.set k true) T 0 σ) w' := by
      have hp := chsM_set (β := β) (m := m) (b := b) (k := k) T 0 σ (Nat.zero_le _) (by omega) (by omega) e2
      rw [Nat.sub_zero] at hp
      exact g2.perm hp
    have hkept := kept_of hinv (exacts_mono (fun c hc => chsM_mem T 0 hc) hK)
    refine ⟨⟨fun b' o' v' hv => hkept.1 b' o' v' (g1.2 b' o' v' hv), hkept.2⟩, ?_⟩
    have hrel' : RelM G' s δ T (fun i => if i = k then b else β i) (m.set k true) (a.put (nth T k).t v) := by
      have oth : ∀ t, (nth T k).t ≠ some t → (a.put (nth T k).t v).tmps.getD t undef = a.tmps.getD t undef := by
        intro t ht
        generalize (nth T k).t = x at ht
        cases x with
        | none => rfl
        | some y =>
          have : y ≠ t := fun e => ht (by rw [e])
          simp only [Act.put, Array.getD_eq_getD_getElem?, Array.getElem?_setIfInBounds_ne this]
      refine ⟨g3, fun t ht hno => ?_, fun k' t hk' hm' ht hlt => ?_, g5, ?_⟩
      · rw [oth t (hno k hk)]
        exact (hrel.old t ht hno).mono g1.2
      · by_cases e : k' = k
        · subst e
          simp only [if_true]
          exact g4 t ht hlt
        · simp only [if_neg e]
          rw [getD_set _ _ _ (by omega), if_neg (fun e' => e e'.symm)] at hm'
          have hne : (nth T k).t ≠ some t := by
            intro e'
            apply e
            -- the slots are apart
            have key : ∀ (U : List TE), (U.filterMap TE.t).Nodup → ∀ i j, i < U.length → j < U.length → (nth U i).t = some t → (nth U j).t = some t → i = j := by
              intro U
              induction U with
              | nil => intro _ i j h1; exact absurd h1 (by simp)
              | cons y U ihU =>
                intro hnd i j h1 h2 h3 h4
                have hmem : ∀ q, q < U.length → (nth U q).t = some t → t ∈ U.filterMap TE.t := fun q hq hqt => by
                  rw [List.mem_filterMap]
                  refine ⟨nth U q, ?_, hqt⟩
                  simp [nth, List.getD_eq_getElem?_getD, hq]
                have hnd' : (U.filterMap TE.t).Nodup ∧ (y.t = some t → t ∉ U.filterMap TE.t) := by
                  rw [List.filterMap_cons] at hnd
                  cases hy : y.t with
                  | none => rw [hy] at hnd; exact ⟨hnd, fun h => by cases h⟩
                  | some z =>
                    rw [hy] at hnd
                    have := List.nodup_cons.mp hnd
                    exact ⟨this.2, fun h => by cases h; exact this.1⟩
                cases i with
                | zero =>
                  cases j with
                  | zero => rfl
                  | succ j => exact absurd (hmem j (by simpa using h2) h4) (hnd'.2 h3)
                | succ i =>
                  cases j with
                  | zero => exact absurd (hmem i (by simpa using h1) h3) (hnd'.2 h4)
                  | succ j => rw [ihU hnd'.1 i j (by simpa using h1) (by simpa using h2) h3 h4]
            exact key T hd k' k hk' hk ht e'
          rw [oth t hne]
          exact (hrel.new k' t hk' hm' ht hlt).mono g1.2
      · intro q hq
        obtain ⟨cap, args, f1, f2, f3⟩ := hrel.defd q hq
        exact ⟨cap, args, by rw [act_put_defers]; exact f1, f2, fun j hj => (f3 j hj).mono g1.2⟩
    have hcl' : ∀ k', k' < T.length → (m.set k true).getD k' false = true → ∀ j ∈ (nth T k').deps, (m.set k true).getD j false = true := by
      intro k' hk' hm' j hj
      rw [getD_set _ _ _ (by omega)] at hm' ⊢
      split
      · rfl
      · by_cases e : k = k'
        · subst e; exact e3 j hj
        · rw [if_neg e] at hm'; exact hcl k' hk' hm' j hj
    have hrec := ih (m.set k true) (by simp [hm]) (by have := fcnt_set (m := m) (k := k) (by omega) e2; omega) hcl' G' _ w' _ hinv hrel'
    rw [lsOf_set _ _ _ _ (by rw [hlen]; exact hm) (by rw [hlen]; exact hk), keyOf_keys T k hk] at hrec
    exact wpAnyH_mono (fun _ _ _ l => l.mono g1) (fun w hk => ⟨fun b o v hv => hk.1 b o v (g1.2 b o v hv), hk.2⟩) _ _ _ _ hrec

/-- Operations that come in whatever order: the state behind all of them is one. -/
theorem sa_conf (T : List TE) {I : List (Nat × List Nat)} {nT : Nat} (hI : keys T = I) (hn : T.length = nT) (hd : decide ((T.filterMap TE.t).Nodup) = true) (hc : confOk ops listed I = true) (hK : ExactsOf K σ) (hs : StepsOk P ops δ σ s T T)
    (h : contT P ops fuel (lsOf I (List.replicate nT true) listed) Q δ K T s σ) : SA P ops (fuel + nT) listed Q s δ σ K := fun G a w hi hrel => by
  subst hI
  subst hn
  have h0 : ∀ i, (List.replicate T.length false).getD i false = false := fun i => by
    rw [List.getD_eq_getElem?_getD]
    by_cases e : i < T.length
    · simp [e]
    · rw [List.getElem?_eq_none (by simp; omega)]; rfl
  have := conf_run (fuel := fuel) (Q := Q) (of_decide_eq_true hd) hc hs hK (List.replicate T.length true) (fun β m hm => contT_all T 0 s σ (fun i _ h2 => hm i (by omega)) h) rfl T.length (List.replicate T.length false) (by simp) (fcnt_rep _)
    (fun k _ hk => by rw [h0] at hk; cases hk) G a w (fun _ => 0) (by rw [chsM_none h0]; exact hi)
    ⟨hrel.size, fun t ht _ => hrel.slot t ht, fun k t _ hk => (by rw [h0] at hk; cases hk), hrel.defs, hrel.defd⟩
  rw [show (keys T) = keys T from rfl] at this
  have e : lsOf (keys T) (List.replicate T.length false) listed = listed := by
    have := lsOf_rep (keys T) listed
    rwa [show (keys T).length = T.length by simp [keys]] at this
  rw [e] at this
  exact this

end rules
end Go.Proofs.YtlolmemiedhhhaaDoor.SL

/- The program logic, twentieth part: slices of immutable lists, in whatever order. -/
namespace Go.Proofs.YtlolmemiedhhhaaDoor.SL
set_option linter.unusedVariables false
set_option linter.unusedSimpArgs false
open Go Go.RowKit

section rules
variable {P : Program} {K : Exacts} {s : Slots} {δ : Defs} {o : Oper}

theorem pu_slice_list {t e : TypeId} {x : Operand} {lo hi : Option Operand} {xs : List V} {sz : Nat} (m n : Nat) (ho : o.op = .slice t x lo hi none)
    (hx : (evalO s x).asList = some xs) (ht : P.underlying t = some (.slice e)) (hs : szOf P e = some sz) (hsz : ∀ x ∈ xs, x.cells.length = sz) (hlo : lowIs s lo m) (hhi : highIs s xs.length hi n)
    (hmn : m ≤ n) (hn : n ≤ xs.length) : PureOp P K s δ o (.val (.list ((xs.drop m).take (n - m)))) := fun G a hr => by
  have r := asList_rep (hr.eval x) hx
  obtain ⟨ad, cp, hv, hcp⟩ := rep_list_len r
  rw [hv] at r
  refine ⟨_, rep_bin (sub_list r hsz hmn hn (by omega) (Nat.le_refl _)), fun w _ => ?_⟩
  have hb := run_bounds (P := P) (w := w) hr (isS := true) (cap := cp) hlo hhi hmn (by omega)
  simp only [execOp, ho, hv, Instr.sliceAt, Instr.slice, Sem.run_bind, run_under ht, Result.andThen_ok, Option.map_none, hb, run_sizeOf hs, Sem.run_pure]

theorem pu_slice_full {t e : TypeId} {x y z : Operand} {k k' : IntKind} {xs : List V} {sz : Nat} (n : Nat) (ho : o.op = .slice t x none (some y) (some z))
    (hx : (evalO s x).asList = some xs) (ht : P.underlying t = some (.slice e)) (hs : szOf P e = some sz) (hsz : ∀ x ∈ xs, x.cells.length = sz) (hy : evalO s y = .val (.int k n)) (hz : evalO s z = .val (.int k' n))
    (hn : n ≤ xs.length) : PureOp P K s δ o (.fix (xs.take n)) := fun G a hr => by
  have r := asList_rep (hr.eval x) hx
  obtain ⟨ad, cp, hv, hcp⟩ := rep_list_len r
  rw [hv] at r
  have h2 := hr.eval y; rw [hy] at h2; have e2 := rep_int h2
  have h3 := hr.eval z; rw [hz] at h3; have e3 := rep_int h3
  have r2 := sub_list (m := 0) (h := n) (mx := n) r hsz (Nat.zero_le _) hn (Nat.le_refl _) (by omega)
  simp only [Nat.sub_zero, List.drop_zero] at r2
  have hl : (xs.take n).length = n := by simp; omega
  refine ⟨.slice (if n = 0 then ad else ad.map (·.add (0 * sz))) n n, ?_, fun w _ => ?_⟩
  · have := RepD.fix (C := G.C) (if n = 0 then ad else ad.map (·.add (0 * sz))) (xs.take n) (by rw [hl]; exact r2)
    rw [hl] at this; exact this
  · have hb : (Instr.sliceBounds true xs.length cp none (some (a.eval y)) (some (a.eval z))).run P w = .ok (0, n, n) w := by
      unfold Instr.sliceBounds
      simp only [e2, e3, Sem.run_bind, if_true]
      rw [run_bound (by omega) (by omega)]
      simp only [Result.andThen_ok, Int.toNat_natCast]
      rw [run_bound (by omega) (by omega)]
      simp only [Result.andThen_ok, Int.toNat_natCast, Sem.run_pure]
    simp only [execOp, ho, hv, Instr.sliceAt, Instr.slice, Sem.run_bind, run_under ht, Result.andThen_ok, Option.map_none, Option.map_some, hb, run_sizeOf hs, Sem.run_pure, Nat.sub_zero]

end rules

section rules2
variable {P : Program} {ops : Array Oper} {Q : Post} {s : Slots} {δ : Defs} {σ : List Chunk} {o : Oper} {rest : List Oper}

/-- append to a list without room: nobody else has what comes of it. -/
theorem sl_appf {t u e : TypeId} {x y : Operand} {xs ys zs : List V} {sz bytes : Nat} (hg : o.guard = none) (ho : o.op = .call { callee := .builtin .append, args := #[x, y], argTypes := #[t, u] })
    (hx : evalO s x = .fix xs) (hy : (evalO s y).asList = some ys) (ht : P.underlying t = some (.slice e)) (hu : ∃ d, P.underlying u = some d ∧ isInt d = false)
    (he : elOf P e = some (sz, bytes)) (hxs : SzI sz xs) (hys : SzI sz ys) (hfit : (xs.length + ys.length) * bytes ≤ 140737488355328) (hz : xs ++ ys = zs)
    (c : ∀ v', SL P ops rest Q (sput s o.dst (.own v' zs)) δ (.spare v' sz :: σ)) : SL P ops (o :: rest) Q s δ σ :=
  sl_op hg fun G a w hi hr => by
    subst hz
    obtain ⟨⟨i, z, h1, h2, rfl, rfl, h3⟩, h4, h5⟩ := elOf_ok he
    obtain ⟨d, hd1, hd2⟩ := hu
    have r1 := hr.eval x; rw [hx] at r1
    generalize hv : a.eval x = vx at r1
    cases r1 with
    | fix ad _ r1 =>
      have hi' : Inv G (.spare (.slice ad xs.length xs.length) i.size :: σ) w := by
        refine hi.add ⟨ad, xs.length, xs.length, rfl, .inl rfl⟩ (fun b e => ?_) (fun b o e => ?_) (fun b e => ?_)
        · cases ad <;> simp [Chunk.b?] at e
        · cases ad <;> simp [Chunk.owns] at e
        · cases ad <;> simp [Chunk.b?] at e
      obtain ⟨cs, hsrc, hcs⟩ := src_of_list (P := P) hi' (asList_rep (hr.eval y) hy) (fun y hy => (hys.get y hy).1)
      obtain ⟨v', w', G', g1, g2, g3, g4⟩ := append_core (ty := o.type) hi' r1 ht hd1 hd2 h1 h2 h4 h5 (fun x hx => (hxs.get x hx).1) (fun y hy => (hys.get y hy).1)
        (fun v y r hy' => flat_cell (fun z hz => (hys.get z hz).2) r hy') hsrc hcs hfit h3
      refine ⟨v', w', G', .own v' (xs ++ ys), .spare v' i.size :: σ, run_call_builtin ho ?_, g2, g3, .own _ _ g4, c v'⟩
      simp only [builtin, List.map_toArray, List.map_cons, List.map_nil, Sem.run_bind, hv, g1, Result.andThen_ok, Sem.run_pure]

end rules2
end Go.Proofs.YtlolmemiedhhhaaDoor.SL

/- The program logic, twenty-first part: pointers as data: trees. -/
namespace Go.Proofs.YtlolmemiedhhhaaDoor.SL
set_option linter.unusedVariables false
set_option linter.unusedSimpArgs false
open Go Go.RowKit

section rules
variable {P : Program} {Q : Post} {s : Slots} {δ : Defs} {σ : List Chunk}

theorem fz_ref {G : Gh} {b : Nat} {ds : List D} {xs : List V} {w : World} {σ : List Chunk} (hi : Inv G (.blk b ds :: σ) w) (hx : toVs ds = some xs) :
    ∃ G', G.le G' ∧ Inv G' σ w ∧ ∀ v, RepD G'.C v (.ptr b 0) → RepV G'.C v (.ref (.agg xs)) := by
  obtain ⟨cs, ty, fz, h, h1, h2, h3⟩ := hi.holds _ (List.mem_cons_self ..)
  obtain ⟨hle, hi'⟩ := hi.freeze h
  obtain ⟨h4, h5⟩ := toVs_rep h2 h3 hx
  refine ⟨_, hle, hi', fun v r => ?_⟩
  rw [rep_ptr r]
  refine .ref b 0 (.agg xs) (fun k => cs.getD k undef) (fun k hk => ?_) (fun k hk => (h5 k hk).mono hle.2)
  have hk' : k < xs.length := hk
  show (if b = b then cs[0 + k]? else _) = _
  rw [if_pos rfl, Nat.zero_add, Array.getElem?_eq_getElem (by omega), Array.getD_eq_getD_getElem?, Array.getElem?_eq_getElem (by omega)]
  rfl

/-- A block that is not written any more: its slot reads as a pointer to what it holds. -/
theorem sw_fzr {code : Code} (t : Nat) {b : Nat} {ds : List D} {xs : List V} {σ' : List Chunk} (hs : s.get t = .ptr b 0) (hx : toVs ds = some xs) (hp : Pick (.blk b ds) σ σ')
    (k : SW P code Q (sput s (some t) (.val (.ref (.agg xs)))) δ σ') : SW P code Q s δ σ := fun G a w hi0 hr => by
  obtain ⟨G', hle, hi', hv⟩ := fz_ref (hi0.pick hp) hx
  refine wp_mono (k _ a w hi' ?_) fun e a w l => l.mono hle
  exact (hr.mono hle).recast t fun v r => .val _ _ (hv v (hs ▸ r))

/-- .. where a cell of another block holds the pointer. -/
theorem sw_fzc {code : Code} {b c i : Nat} {ds es : List D} {xs : List V} {σ' σ2 : List Chunk} (hx : toVs ds = some xs) (hp : Pick (.blk b ds) σ σ') (hq : Pick (.blk c es) σ' σ2) (he : es[i]? = some (.ptr b 0))
    (k : SW P code Q s δ (.blk c (es.set i (.val (.ref (.agg xs)))) :: σ2)) : SW P code Q s δ σ := fun G a w hi0 hr => by
  obtain ⟨G', hle, hi', hv⟩ := fz_ref (hi0.pick hp) hx
  have hi2 := hi'.pick hq
  obtain ⟨cs, ty, fz, h, h1, h2, h3⟩ := (show (Chunk.blk c es).holds G'.C w from hi2.holds _ (List.mem_cons_self ..))
  obtain ⟨hlt, hei⟩ := List.getElem?_eq_some_iff.mp he
  have hc : (Chunk.blk c (es.set i (.val (.ref (.agg xs))))).holds G'.C w := by
    refine ⟨cs, ty, fz, h, h1, by rw [List.length_set]; exact h2, fun k hk => ?_⟩
    rw [List.length_set] at hk
    rw [List.getElem_set]
    split
    · rename_i e
      subst e
      have := h3 i hlt
      rw [hei] at this
      exact .val _ _ (hv _ this)
    · exact h3 k hk
  have hi3 : Inv G' (.blk c (es.set i (.val (.ref (.agg xs)))) :: σ2) w := by
    refine ⟨hi2.below, hi2.agree, fun x hx => ?_, hi2.nodup, fun x hx => ?_, fun x hx => ?_⟩
    · rcases List.mem_cons.mp hx with rfl | hx
      · exact hc
      · exact hi2.holds x (List.mem_cons_of_mem _ hx)
    · rcases List.mem_cons.mp hx with rfl | hx
      · exact hi2.apart (.blk c es) (List.mem_cons_self ..)
      · exact hi2.apart x (List.mem_cons_of_mem _ hx)
    · rcases List.mem_cons.mp hx with rfl | hx
      · exact hi2.fresh (.blk c es) (List.mem_cons_self ..)
      · exact hi2.fresh x (List.mem_cons_of_mem _ hx)
  exact wp_mono (k _ a w hi3 (hr.mono hle)) fun e a w l => l.mono hle

end rules

/-! ### Other words for a slot -/
section rules4
variable {P : Program} {ops : Array Oper} {Q : Post} {s : Slots} {δ : Defs} {σ : List Chunk} {rest : List Oper}
theorem Weak.rp_ref (xs : List V) : Weak (.rp xs) (.val (.ref (.agg xs))) := fun C v r => by
  cases r with
  | rp b o _ vs hC hv => exact .val _ _ (.ref b o (.agg xs) vs hC hv)
theorem sl_wk (t : Nat) (d' : D) (h : Weak (s.get t) d') (k : SL P ops rest Q (sput s (some t) d') δ σ) : SL P ops rest Q s δ σ := fun G a w hi hr => k G a w hi (hr.recast t fun v r => h _ _ r)
theorem sw_wk {code : Code} (t : Nat) (d' : D) (h : Weak (s.get t) d') (k : SW P code Q (sput s (some t) d') δ σ) : SW P code Q s δ σ := fun G a w hi hr => k G a w hi (hr.recast t fun v r => h _ _ r)
end rules4

/-! ### Slices that one alone has, with all of their block -/

theorem Inv.row_spare {G : Gh} {σ : List Chunk} {w : World} {v : Value} {sz : Nat} {e : TypeId} (h : Inv G (.row v sz e :: σ) w) : Inv G (.spare v sz :: σ) w := by
  obtain ⟨a, n, c, rfl, hnc, hh⟩ := (show (Chunk.row v sz e).holds G.C w from h.holds _ (List.mem_cons_self ..))
  have hb : ∀ b, (Chunk.spare (.slice a n c) sz).b? = some b → (Chunk.row (.slice a n c) sz e).b? = some b := fun b hb => by
    cases a with
    | none => simp [Chunk.b?] at hb
    | some a =>
      simp only [Chunk.b?] at hb ⊢
      split at hb
      · cases hb
      · rw [if_neg (by omega)]; exact hb
  have ho : ∀ b o, (Chunk.spare (.slice a n c) sz).owns b o → (Chunk.row (.slice a n c) sz e).owns b o := fun b o hb => by
    cases a with
    | none => exact hb
    | some a =>
      obtain ⟨h1, h2, h3⟩ : n ≠ c ∧ b = a.block ∧ a.off + n * sz ≤ o := hb
      exact ⟨by omega, h2, h3⟩
  refine h.drop.add ⟨a, n, c, rfl, ?_⟩ (fun b hb' x hx => h.ne_head (hb b hb') x hx) (fun b o hbo => h.apart _ (List.mem_cons_self ..) b o (ho b o hbo)) (fun b hb' => h.fresh _ (List.mem_cons_self ..) b (hb b hb'))
  by_cases hfull : n = c
  · exact .inl hfull
  · rcases hh with h0 | ⟨b, cs, fz, rfl, h1, h2, h3⟩
    · omega
    · exact .inr ⟨b, 0, cs, e, fz, rfl, by omega, h1, h2, by rw [Nat.zero_add]; exact h3⟩

theorem Inv.spare_row {G G' : Gh} {σ : List Chunk} {w w' : World} {v v' : Value} {sz m : Nat} {e : TypeId} (h0 : Inv G (.row v sz e :: σ) w) (hi : Inv G' (.spare v' sz :: σ) w') (hGG : G.le G') (info : AppInfo G G' w w' v v' sz m e) : Inv G' (.row v' sz e :: σ) w' := by
  rcases info with ⟨rfl, rfl, rfl⟩ | ⟨a, n, c, cells, cells', bty, fz, rfl, rfl, hle, hlt, hb1, hb2, hsz, hC⟩ | ⟨k, cap, cells, rfl, hk, hc, hb, hsz, hC⟩
  · exact h0
  · obtain ⟨a', n', c', hv, hnc, hh⟩ := (show (Chunk.row (.slice (some a) n c) sz e).holds G.C w from h0.holds _ (List.mem_cons_self ..))
    cases hv
    rcases hh with hc0 | ⟨b, cs, fz', hab, h1, h2, h3⟩
    · omega
    · cases hab
      rw [h1] at hb1; cases hb1
      have hbq : (Chunk.row (.slice (some ⟨b, 0, none⟩) n c) sz e).b? = some b := by simp only [Chunk.b?]; rw [if_neg (by omega)]
      refine hi.drop.add ⟨_, _, _, rfl, hle, .inr ⟨b, cells', fz, rfl, hb2, by rw [hsz]; exact h2, by rw [hsz]; exact h3⟩⟩ (fun b' hb' x hx => ?_) (fun b' o hbo => ?_) (fun b' hb' => ?_)
      · have : b' = b := by
          simp only [Chunk.b?] at hb'
          split at hb' <;> simp at hb'
          exact hb'.symm
        subst this; exact h0.ne_head hbq x hx
      · obtain ⟨_, rfl, ho⟩ := hbo
        refine hC o ho (h0.apart _ (List.mem_cons_self ..) _ o ⟨by omega, rfl, ?_⟩)
        have : (0 : Nat) + n * sz ≤ 0 + (n + m) * sz := by rw [Nat.add_mul]; omega
        exact Nat.le_trans this ho
      · have : b' = b := by
          simp only [Chunk.b?] at hb'
          split at hb' <;> simp at hb'
          exact hb'.symm
        subst this
        rw [hGG.1]
        exact h0.fresh _ (List.mem_cons_self ..) _ hbq
  · refine hi.drop.add ⟨_, _, _, rfl, hk, .inr ⟨_, cells, (0, 0), rfl, hb, fun o _ hh => by omega, hsz⟩⟩ (fun b' hb' x hx => ?_) (fun b' o hbo => ?_) (fun b' hb' => ?_)
    · have : b' = w.heap.size := by
        simp only [Chunk.b?] at hb'
        split at hb' <;> simp at hb'
        exact hb'.symm
      subst this
      intro ex
      have := Chunk.holds_lt (h0.drop.holds x hx) ex
      omega
    · obtain ⟨_, rfl, ho⟩ := hbo
      exact hC o (by simpa using ho)
    · have : b' = w.heap.size := by
        simp only [Chunk.b?] at hb'
        split at hb' <;> simp at hb'
        exact hb'.symm
      subst this
      rw [hGG.1]; exact h0.below.size

/-! ### Blocks whose type is kept in mind -/
theorem Inv.alloc_ty {G : Gh} {σ : List Chunk} {w : World} (h : Inv G σ w) {cs : Array Value} {ty : TypeId} {ds : List D} (hs : cs.size = ds.length)
    (hr : ∀ k (hk : k < ds.length), RepD G.C (cs.getD k undef) (ds[k])) : Inv G (.ty w.heap.size ty ds.length :: .blk w.heap.size ds :: σ) (w.alloc (.cells cs ty)) :=
  (h.alloc (ty := ty) hs hr).add ⟨cs, (0, 0), heap_new _ _, hs⟩ (fun b e => by simp [Chunk.b?] at e) (fun b o e => by simp [Chunk.owns] at e) (fun b e => by simp [Chunk.b?] at e)

section rules5
variable {P : Program} {ops : Array Oper} {Q : Post} {s : Slots} {δ : Defs} {σ : List Chunk} {o : Oper} {rest : List Oper}
theorem sl_alloc_ty {t : TypeId} {ds : List D} (hg : o.guard = none) (ho : o.op = .alloc t) (hz : zeroDs P t = some ds)
    (c : ∀ b, SL P ops rest Q (sput s o.dst (.ptr b 0)) δ (.ty b t ds.length :: .blk b ds :: σ)) : SL P ops (o :: rest) Q s δ σ :=
  sl_op hg fun G a w hi hr => by
    obtain ⟨v, hv, hr'⟩ := zero_cells hz
    have h := hr' G.C
    refine ⟨.pointer (some ⟨w.heap.size, 0, none⟩), w.alloc (.cells v.cells t), G, .ptr w.heap.size 0, .ty w.heap.size t ds.length :: .blk w.heap.size ds :: σ, ?_, G.le_refl, hi.alloc_ty h.1 h.2, .ptr _ _, c _⟩
    simp only [execOp, ho, Instr.alloc, Sem.run_bind, run_zeroOf hv, Result.andThen_ok, newVar, newRow, run_newObj, Sem.run_pure]
    rfl
theorem sl_bx_ty {t : TypeId} {x : Operand} {d : D} (hg : o.guard = none) (ho : o.op = .box t x) (hd : opd s x = some d) (hk : d.known = true)
    (c : ∀ b, SL P ops rest Q (sput s o.dst (.ptr b 0)) δ (.ty b t d.cells.length :: .blk b d.cells :: σ)) : SL P ops (o :: rest) Q s δ σ :=
  sl_op hg fun G a w hi hr => by
    have h := rep_cells (hr.eval x) (by rw [opd_eval hd]; exact hk)
    rw [opd_eval hd] at h
    refine ⟨.pointer (some ⟨w.heap.size, 0, none⟩), w.alloc (.cells (a.eval x).cells t), G, .ptr w.heap.size 0, .ty w.heap.size t d.cells.length :: .blk w.heap.size d.cells :: σ, ?_, G.le_refl, hi.alloc_ty h.1 h.2, .ptr _ _, c _⟩
    simp only [execOp, ho, Instr.box, Sem.run_bind, Result.andThen_ok, newVar, newRow, run_newObj, Sem.run_pure]
    rfl
end rules5

section rules3
variable {P : Program} {ops : Array Oper} {Q : Post} {s : Slots} {δ : Defs} {σ : List Chunk} {o : Oper} {rest : List Oper}

/-- A cell's empty list without room, as a slice that one alone has. -/
theorem sw_own_row {code : Code} {b i sz : Nat} {e : TypeId} {ds : List D} (hd : ds[i]? = some (.fix [])) (k : ∀ v, SW P code Q s δ (.blk b (ds.set i (.own v [])) :: .row v sz e :: σ)) : SW P code Q s δ (.blk b ds :: σ) := fun G a w hi hr => by
  obtain ⟨cs, ty, fz, h, h1, h2, h3⟩ := (show (Chunk.blk b ds).holds G.C w from hi.holds _ (List.mem_cons_self ..))
  obtain ⟨hlt, hde⟩ := List.getElem?_eq_some_iff.mp hd
  have hv := h3 i hlt
  rw [hde] at hv
  generalize hval : cs.getD i undef = v at hv
  cases hv with
  | fix ad xs hx =>
    have hi' : Inv G (.row (.slice ad 0 0) sz e :: .blk b ds :: σ) w := hi.add ⟨ad, 0, 0, rfl, Nat.le_refl _, .inl rfl⟩ (fun b e => by cases ad <;> simp [Chunk.b?] at e) (fun b o e => by cases ad <;> simp [Chunk.owns] at e) (fun b e => by cases ad <;> simp [Chunk.b?] at e)
    have hi2 : Inv G (.blk b ds :: .row (.slice ad 0 0) sz e :: σ) w := hi'.perm (List.Perm.swap _ _ _)
    refine k (.slice ad 0 0) G a w (hi2.change (b := b) rfl (fun x e => by simpa [Chunk.b?] using e.symm) G.le_refl (fun x o v hv => .inl hv) rfl rfl rfl rfl (fun _ _ => rfl) (fun o v hv => hi.agree _ _ _ hv) ?_ (fun x o e => hi.apart (.blk b ds) (List.mem_cons_self ..) x o e) (fun t0 c0 f0 h0 => ⟨c0, f0, h0, rfl⟩)) hr
    refine ⟨cs, ty, fz, h, h1, by simpa using h2, fun k hk => ?_⟩
    have hk' : k < ds.length := by simpa using hk
    by_cases e : i = k
    · subst e
      rw [List.getElem_set_self, hval]; exact .own _ _ hx
    · rw [List.getElem_set_ne e]; exact h3 k hk'

/-- append: a text's bytes to such a slice. -/
theorem sl_app_row {t u e : TypeId} {x y : Operand} {v : Value} {xs zs : List V} {l : List UInt8} {bytes : Nat} {σ' : List Chunk} (hg : o.guard = none) (ho : o.op = .call { callee := .builtin .append, args := #[x, y], argTypes := #[t, u] })
    (hx : evalO s x = .own v xs) (hy : evalO s y = .val (.str l)) (ht : P.underlying t = some (.slice e)) (hu : P.underlying u = some .string)
    (he : elOf P e = some (1, bytes)) (hxs : SzI 1 xs) (hfit : (xs.length + l.length) * bytes ≤ 140737488355328) (hz : xs ++ l.map byteV = zs) (hp : Pick (.row v 1 e) σ σ')
    (c : ∀ v', SL P ops rest Q (sput s o.dst (.own v' zs)) δ (.row v' 1 e :: σ')) : SL P ops (o :: rest) Q s δ σ :=
  sl_front hp (sl_op hg fun G a w hi hr => by
    subst hz
    obtain ⟨⟨i, z, h1, h2, h6, rfl, h3⟩, h4, h5⟩ := elOf_ok he
    have r1 := hr.eval x; rw [hx] at r1
    have r2 := hr.eval y; rw [hy] at r2; obtain ⟨t1, e2, rfl⟩ := rep_str r2
    generalize hv : a.eval x = vx at r1
    cases r1 with
    | own _ _ r1 =>
      obtain ⟨cs, hsrc, hcs⟩ := src_of_str (P := P) (w := w) (C := G.C) t1
      have hi1 := hi.row_spare
      have hxs' := fun x hx => (hxs.get x hx).1
      rw [← h6] at hi1 hsrc hxs' h3
      obtain ⟨v', w', G', g1, g2, g3, g4, g5⟩ := append_core' (ty := o.type) hi1 r1 ht hu rfl h1 h2 (by omega) h5 hxs' (fun y hy => by rw [h6]; exact (byteV_cells _ y hy).1)
        (fun v y r hy' => flat_cell (fun z hz => (byteV_cells _ z hz).2) r hy') hsrc hcs (by simpa only [List.length_map] using hfit) h3
      rw [h6] at g3 g5
      refine ⟨v', w', G', .own v' (xs ++ t1.data.toList.map byteV), .row v' 1 e :: σ', run_call_builtin ho ?_, g2, hi.spare_row g3 g2 g5, .own _ _ g4, c v'⟩
      simp only [builtin, List.map_toArray, List.map_cons, List.map_nil, Sem.run_bind, hv, e2, g1, Result.andThen_ok, Sem.run_pure])

end rules3

/-- Only a block that nobody has any more has turned. -/
theorem inv_other {G : Gh} {σ : List Chunk} {w w' : World} {b : Nat} (hi : Inv G σ w) (hne : ∀ x ∈ σ, x.b? ≠ some b) (hfr : G.W.heap.size ≤ b) (hos : w'.os = w.os) (hta : w'.tape = w.tape) (hou : w'.output = w.output) (hsz : w'.heap.size = w.heap.size)
    (hbl : ∀ k, k ≠ b → w'.heap[k]? = w.heap[k]?) (hag : ∀ o, w'.cell? ⟨b, o, none⟩ = w.cell? ⟨b, o, none⟩)
    (hty : ∀ t cs fz, w.heap[b]? = some (.cells cs t fz) → ∃ cs' fz', w'.heap[b]? = some (.cells cs' t fz') ∧ cs'.size = cs.size) : Inv G σ w' := by
  have hT : SameTy w w' := fun k t cs fz h => by
    by_cases e : k = b
    · subst e; exact hty t cs fz h
    · exact ⟨cs, fz, (hbl k e).trans h, rfl⟩
  refine ⟨hi.below.trans ⟨hos, hta, hou, by omega, fun k hk => hbl k (by omega)⟩, fun x o v hv => ?_, fun x hx => ?_, hi.nodup, hi.apart, hi.fresh⟩
  · by_cases e : x = b
    · subst e; rw [hag]; exact hi.agree _ _ _ hv
    · rw [← hi.agree x o v hv]; exact World.cell?_of_block (hbl x e)
  · exact Chunk.holds_of_block (Imm.le_refl _) (fun y ey => hbl y (fun e => hne x hx (e ▸ ey))) (hi.holds x hx) hT

/-- What a pointer's type covers. -/
theorem covers_ptr {P : Program} {n : Nat} {t e : TypeId} {S : List V → Prop} (ht : P.underlying t = some (.pointer e)) (hsz : 0 < P.cellsOf e) (hS : Covers P n e S) :
    Covers P (n + 1) t fun xs => xs = [.nil] ∨ ∃ ys, S ys ∧ xs = [.ref (.agg ys)] := fun H enc W sp held cs d ps h => by
  match cs with
  | [] => simp [DataW.trod, ht] at h
  | [v] =>
    cases v with
    | pointer a =>
      cases a with
      | none => exact ⟨[.nil], .inl rfl, rep_single .nil⟩
      | some a =>
        simp only [DataW.trod, ht, Option.map_eq_some_iff, Option.bind_eq_some_iff] at h
        obtain ⟨⟨d1, p1⟩, ⟨cs1, hc1, hd1⟩, _⟩ := h
        obtain ⟨ys, hy, hl, hr⟩ := hS H enc W sp held cs1 d1 p1 hd1
        obtain ⟨b, o, hao, hcell⟩ : ∃ b o, a = ⟨b, o, none⟩ ∧ ∀ k, k < cs1.length → W.cell? ⟨b, o + k, none⟩ = some (cs1.getD k undef) := by
          obtain ⟨hl1, hg⟩ := cells_get hc1
          have h0 : 0 < cs1.length := by omega
          have hs := spot_of_cell (hg 0 h0)
          obtain ⟨b, o, sp⟩ := a
          have hs' : sp = none := by simpa [Addr.add] using hs
          subst hs'
          refine ⟨b, o, rfl, fun k hk => ?_⟩
          have := hg k hk
          rw [show cs1.getD k undef = cs1[k] by rw [List.getD_eq_getElem?_getD, List.getElem?_eq_getElem hk]; rfl]
          rw [addr_add] at this; exact this
        subst hao
        exact ⟨[.ref (.agg ys)], .inr ⟨ys, hy, rfl⟩, rep_single (.ref b o (.agg ys) (fun k => cs1.getD k undef) (fun k hk => hcell k (by rw [hl]; exact hk)) (fun k hk => hr k hk))⟩
    | _ => simp [DataW.trod, ht] at h
  | _ :: _ :: _ => simp [DataW.trod, ht] at h
end Go.Proofs.YtlolmemiedhhhaaDoor.SL
