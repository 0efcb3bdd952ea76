/- The program logic, twelfth part: panics, deferred calls, recovering; results in a cell; interface values. -/
import Derived.Test.YtioechdfghglhaaSlJ
namespace Go.Proofs.Ytioechdfghglhaa.SL
set_option linter.unusedVariables false
set_option linter.unusedSimpArgs false
open Go Go.RowKit

/-- How a frame stands when its deferred calls begin: it returns, or this value has been raised. -/
def modeOf : Option Value → FrameMode
  | none => .returning
  | some v => .panicking [{ v, recovered := false }]

/-- A deferred call: it returns, and what was raised is settled. -/
def DSpec (P : Program) (g : FuncId) (ds : List D) (σ : List Chunk) (x : Option Value) (K : List Chunk → Prop) : Prop :=
  ∀ G vs w, Inv G σ w → RepDs G.C vs ds → CallsD P g vs (modeOf x) w fun
    | .returned _, u', w' => settle u' = .returning ∧ ∃ G' σ', G.le G' ∧ Inv G' σ' w' ∧ K σ'
    | _, _, _ => False

theorem DSpec.use {P : Program} {g : FuncId} {ds : List D} {σ σ' : List Chunk} {x : Option Value} {K K' : List Chunk → Prop} (h : DSpec P g ds σ' x K') (hs : Sub σ' σ)
    (hk : ∀ σ'', K' σ'' → K σ'') : DSpec P g ds σ x K := fun G vs w hi hr => (h G vs w (hi.less hs) hr).mono fun e u' w' he => by
  cases e with
  | returned v => obtain ⟨h1, G', σ'', h2, h3, h4⟩ := he; exact ⟨h1, G', σ'', h2, h3, hk _ h4⟩
  | panicked ch => exact he
  | outgrown => exact he

def leaveQ (P : Program) (fn : Func) (R : D → List Chunk → Prop) (x : Option Value) (s : Slots) (δ : Defs) (σ : List Chunk) : Prop :=
  match δ with
  | [] => x = none ∧ ∃ d σ', ResD P fn s σ d ∧ Sub σ' σ ∧ R d σ'
  | [(g, ds)] => callable P g = true ∧ DSpec P g ds σ x fun σ' => ∃ d σ'', ResD P fn s σ' d ∧ Sub σ'' σ' ∧ R d σ''
  | _ => False

def deferQ (P : Program) (fn : Func) (R : D → List Chunk → Prop) : Post
  | .normal, s, δ, σ | .ret, s, δ, σ => leaveQ P fn R none s δ σ
  | .panic ch, s, δ, σ => ∃ v, ch = [{ v, recovered := false }] ∧ leaveQ P fn R (some v) s δ σ
  | _, _, _, _ => False

theorem leaves_of {P : Program} {fn : Func} {R : D → List Chunk → Prop} {x : Option Value} {G₀ G : Gh} {s : Slots} {δ : Defs} {σ : List Chunk} {a : Act} {w : World} (Rw : Ending → World → Prop)
    (hR : ∀ v w' G' d σ', G₀.le G' → Inv G' σ' w' → RepD G'.C v d → R d σ' → Rw (.returned v) w') (hle : G₀.le G)
    (hi : Inv G σ w) (hr : RelA G s δ a) (h : leaveQ P fn R x s δ σ) : Leaves P fn a.tmps Rw a.defers (modeOf x) w := by
  unfold leaveQ at h
  split at h
  · obtain ⟨rfl, d, σ', h1, h2, h3⟩ := h
    rw [defs_nil hr]
    obtain ⟨v, hv, hrep⟩ := h1 G a w hi ⟨_, hr⟩
    exact ⟨v, hv, hR _ _ G d σ' hle (hi.less h2) hrep h3⟩
  · rename_i g ds
    obtain ⟨hc, h⟩ := h
    obtain ⟨cap, args, h1, h2, h3⟩ := hr.defd 0 (by simp)
    have hlen := hr.defs
    have hd : a.defers = [{ target := .fn (.func g) cap, args := args }] := by
      match hh : a.defers, hlen, h1 with
      | [y], _, h1 => simpa using h1
    rw [hd]
    have hinv : (invoke (.fn (.func g) cap) args).run P w = .ok (.enter g (args ++ cap)) w := by
      simp only [invoke, callable_run hc]
    refine leaves_cons (by cases x <;> simp [modeOf]) hinv (CallsD.mono (h G _ w hi ⟨h2, fun k hk => h3 k hk⟩) fun e u' w' he => ?_)
    cases e with
    | returned v =>
      obtain ⟨hs, G', σ', g1, g2, d, σ'', g3, g4, g5⟩ := he
      simp only [hs]
      obtain ⟨v, hv, hrep⟩ := g3 G' a w' g2 ⟨_, hr.mono g1⟩
      exact ⟨v, hv, hR _ _ G' d σ'' (hle.trans g1) (g2.less g4) hrep g5⟩
    | panicked ch => exact he.elim
    | outgrown => exact he.elim
  · exact h.elim

theorem rel_start {fn : Func} {G : Gh} {vs : Array Value} {ds : List D} (hr : RepDs G.C vs ds) :
    RelA G ⟨ds.length + (fn.ntmps - ds.length), argS ds 0⟩ [] { tmps := vs ++ Array.replicate (fn.ntmps - vs.size) undef, defers := [] } := by
  refine ⟨by simp [hr.1], fun k hk => ?_, rfl, fun k hk => absurd hk (by simp)⟩
  show RepD G.C _ (orJunk (look (argS ds 0) k))
  rw [look_argS, if_pos (Nat.zero_le _), Nat.sub_zero]
  by_cases h1 : k < ds.length
  · rw [List.getElem?_eq_getElem h1]
    have := hr.2 k h1
    have h2 : k < vs.size := by rw [hr.1]; exact h1
    simp only [Array.getD_eq_getD_getElem?, Array.getElem?_append_left h2]
    show RepD G.C _ ds[k]
    simpa only [Array.getD_eq_getD_getElem?] using this
  · rw [List.getElem?_eq_none (Nat.le_of_not_lt h1)]; exact .junk _

/-- A contract of a function that defers one call. -/
theorem spec_of_defer {P : Program} {f : FuncId} {fn : Func} {c : Code} {ds : List D} {σ : List Chunk} {R : D → List Chunk → Prop}
    (hf : P.funcs[f]? = some fn) (hb : fn.body = some c)
    (h : SW P c (deferQ P fn R) ⟨ds.length + (fn.ntmps - ds.length), argS ds 0⟩ [] σ) : FSpec P f ds σ R := fun G vs w hi hr => by
  refine calls_of_wp_defers hf hb ?_
  refine wp_mono (h G _ w hi (rel_start hr)) fun e a' w' ⟨G', s', δ', σ', h1, h2, h3, h4⟩ => ?_
  cases e with
  | normal => exact leaves_of _ (fun v w' G' d σ' a b c e => ⟨G', d, σ', a, b, c, e⟩) h1 h2 h3 h4
  | ret => exact leaves_of _ (fun v w' G' d σ' a b c e => ⟨G', d, σ', a, b, c, e⟩) h1 h2 h3 h4
  | panic ch =>
    obtain ⟨v, rfl, h4⟩ := h4
    exact leaves_of (x := some v) _ (fun v w' G' d σ' a b c e => ⟨G', d, σ', a, b, c, e⟩) h1 h2 h3 h4
  | exit id => exact h4.elim
  | goto l => exact h4.elim
  | outgrown => exact h4.elim

/-- A deferred function that begins with 'x := recover()'. -/
theorem dspec_recover {P : Program} {g : FuncId} {fn : Func} {id : Nat} {o1 o2 : Oper} {t1 : Tmp} {rest : Code} {ds : List D} {σ : List Chunk} {x : Option Value} {K : List Chunk → Prop}
    (hf : P.funcs[g]? = some fn) (hb : fn.body = some (.seq (.region id [o1, o2].toArray false) rest))
    (h1 : o1.op = .call { callee := .builtin .recover, args := #[], argTypes := #[] }) (g1 : o1.guard = none) (h2 : o2.op = .assign (.tmp t1)) (g2 : o2.guard = none)
    (d : D) (hd : ∀ C, RepD C (x.getD .nilIface) d) (hd1 : o1.dst = some t1)
    (h : SW P rest (bodyQ P fn (fun _ σ' => K σ') (fun _ _ => False)) (sput (sput ⟨ds.length + (fn.ntmps - ds.length), argS ds 0⟩ (some t1) d) o2.dst (evalO (sput ⟨ds.length + (fn.ntmps - ds.length), argS ds 0⟩ (some t1) d) (.tmp t1))) [] σ) :
    DSpec P g ds σ x K := fun G vs w hi hr => by
  refine callsD_of_wpS hf hb fun c₀ cs hu => ?_
  refine wpS_seq (wpS_region ?_)
  have hrel := (rel_start (fn := fn) hr).put (some t1) (hd G.C)
  have hrel2 := hrel.put o2.dst (hrel.eval (.tmp t1))
  have hrec : (execOp ({ tmps := vs ++ Array.replicate (fn.ntmps - vs.size) undef, defers := [] } : Act).eval o1).run P w = .ok .recover w := by
    simp only [execOp, h1]; rfl
  have hass : ∀ a : Act, (execOp a.eval o2).run P w = .ok (.value (a.eval (.tmp t1))) w := fun a => by
    simp only [execOp, h2]; rfl
  have fin : ∀ u', settle u' = .returning → Code.wpS P rest (bodyPostS P fn c₀ cs fun
      | .returned _, u', w' => settle u' = .returning ∧ ∃ G' σ', G.le G' ∧ Inv G' σ' w' ∧ K σ'
      | _, _, _ => False) ((({ tmps := vs ++ Array.replicate (fn.ntmps - vs.size) undef, defers := [] } : Act).put (some t1) (x.getD .nilIface)).put o2.dst
        ((({ tmps := vs ++ Array.replicate (fn.ntmps - vs.size) undef, defers := [] } : Act).put (some t1) (x.getD .nilIface)).eval (.tmp t1))) ({ c₀ with mode := u' } :: cs) w := fun u' hs => by
    refine wpS_of_wp (wp_mono (h G _ w hi hrel2) fun e a' w' ⟨G', s', δ', σ', k1, k2, k3, k4⟩ => ?_)
    cases e with
    | normal =>
      obtain ⟨rfl, d', σ'', m1, m2, m3⟩ := k4
      obtain ⟨v, hv, hrep⟩ := m1 G' a' w' k2 ⟨_, k3⟩
      exact ⟨defs_nil k3, u', rfl, v, hv, hs, G', σ'', k1, k2.less m2, m3⟩
    | ret =>
      obtain ⟨rfl, d', σ'', m1, m2, m3⟩ := k4
      obtain ⟨v, hv, hrep⟩ := m1 G' a' w' k2 ⟨_, k3⟩
      exact ⟨defs_nil k3, u', rfl, v, hv, hs, G', σ'', k1, k2.less m2, m3⟩
    | panic ch => obtain ⟨_, _, _, k4⟩ := k4; exact k4.elim
    | exit id => exact k4.elim
    | goto l => exact k4.elim
    | outgrown => exact k4.elim
  have hr2 : List.range ([o1, o2].toArray.size) = [0, 1] := rfl
  have w1 : ∀ t, Region.wanted o1 t = true := fun t => by simp [Region.wanted, g1]
  have w2 : ∀ t, Region.wanted o2 t = true := fun t => by simp [Region.wanted, g2]
  rw [hr2]
  unfold wpOpsS
  simp only [show ([o1, o2].toArray)[0]? = some o1 from rfl, w1, if_true, hrec]
  cases x with
  | none =>
    have hrn : recoverD (c₀ :: cs) = none := by
      simp only [recoverD, hu, modeOf]
    simp only [hrn, hd1]
    unfold wpOpsS
    simp only [show ([o1, o2].toArray)[1]? = some o2 from rfl, w2, if_true, hass, Oper.upon_value]
    unfold wpOpsS
    have := fin .returning rfl
    have e : ({ c₀ with mode := .returning } : Frame) = c₀ := by
      have hu : c₀.mode = .returning := hu
      rw [← hu]
    rw [e] at this
    exact this
  | some v =>
    have hrn : recoverD (c₀ :: cs) = some (v, { c₀ with mode := .panicking [{ v, recovered := true }] } :: cs) := by
      simp only [recoverD, hu, modeOf]
    simp only [hrn, hd1]
    unfold wpOpsS
    simp only [show ([o1, o2].toArray)[1]? = some o2 from rfl, w2, if_true, hass, Oper.upon_value]
    unfold wpOpsS
    exact fin (.panicking [{ v, recovered := true }]) rfl

section rules
variable {P : Program} {ops : Array Oper} {Q : Post} {s : Slots} {δ : Defs} {σ : List Chunk} {o : Oper} {rest : List Oper}

/-- 'defer' of a function value. -/
theorem sl_defer {x : Operand} {l : List Operand} {at' : Array TypeId} {f : FuncId} {caps ds : List D} (hg : o.guard = none)
    (ho : o.op = .defer { callee := .value x, args := l.toArray, argTypes := at' }) (hx : evalO s x = .func f caps) (hd : l.map (evalO s) ++ caps = ds)
    (k : SL P ops rest Q (sput s o.dst .junk) ((f, ds) :: δ) σ) : SL P ops (o :: rest) Q s δ σ := fun G a w hi hr => by
  refine wpList_plain hg fun K hK => ?_
  have h1 := hr.eval x; rw [hx] at h1
  generalize hv : a.eval x = v at h1
  cases h1 with
  | func f vs ds' hsz hrep =>
    subst hd
    have hargs : RepDs G.C (l.toArray.map a.eval ++ vs) _ := (repDs_append (repDs_map hr l) ⟨hsz, hrep⟩)
    unfold Oper.wp
    have hrun : (execOp a.eval o).run P w = .ok (.defer { target := .fn (.func f) vs, args := l.toArray.map a.eval }) w := by
      simp only [execOp, ho, resolve, hv, Deferred.ofValue, Sem.run_bind, Sem.run_pure, Result.andThen_ok, Array.empty_append]
    rw [hrun, Oper.upon_defer]
    refine hK _ _ (k G _ w hi (RelA.put (a := { a with defers := _ :: a.defers }) ⟨hr.size, hr.slot, by simp [hr.defs], fun j hj => ?_⟩ o.dst (.junk _)))
    cases j with
    | zero => exact ⟨vs, l.toArray.map a.eval, rfl, hargs.1, fun k hk => hargs.2 k hk⟩
    | succ j => exact hr.defd j (by simpa using hj)

/-- 'panic'. -/
theorem sl_panic {x : Operand} {t : TypeId} {u : Value} {d : D} (hg : o.guard = none) (ho : o.op = .panic x) (hx : evalO s x = d) (hd : ∀ C v, RepD C v d → v = .iface t u)
    (k : Q (.panic [{ v := .iface t u, recovered := false }]) s δ σ) : SL P ops (o :: rest) Q s δ σ := fun G a w hi hr => by
  refine wpList_plain hg fun K hK => ?_
  have h1 := hr.eval x; rw [hx] at h1
  have h2 := hd _ _ h1
  unfold Oper.wp
  have hrun : (execOp a.eval o).run P w = .halt (.panic (.iface t u)) w := by
    simp only [execOp, ho, h2, Instr.panic, Sem.run_bind]; rfl
  rw [hrun, Oper.upon_panic]
  exact ⟨G, s, δ, σ, G.le_refl, hi, hr, k⟩

theorem empty_iface {C : Imm} {v : Value} {t : TypeId} (r : RepD C v (.iface t (.agg []))) : v = .iface t (.agg #[]) := by
  cases r with
  | iface t v d h =>
    cases h with
    | agg vs ds h1 h2 =>
      have : vs = #[] := Array.eq_empty_of_size_eq_zero h1
      rw [this]

/-- 'x.(T)' that holds, with the second result. -/
theorem sl_assert_ok {x : Operand} {t xt : TypeId} {d : D} {td : TypeDesc} (hg : o.guard = none) (ho : o.op = .typeAssert x xt t true) (hx : evalO s x = .iface t d)
    (ht : P.underlying t = some td) (hd : ∀ ms, td ≠ .interface ms)
    (c : SL P ops rest Q (sput s o.dst (.tup [d, .val (.bool true)])) δ σ) : SL P ops (o :: rest) Q s δ σ :=
  sl_pure hg (fun G a w hi hr => by
    have h1 := hr.eval x; rw [hx] at h1
    generalize hv : a.eval x = v at h1
    cases h1 with
    | iface t v d h =>
      refine ⟨.tuple #[v, .bool true], ?_, .tup _ _ rfl (fun k hk => ?_)⟩
      · simp only [execOp, ho, hv, Instr.typeAssert, Sem.run_bind, run_under ht, Result.andThen_ok]
        cases td <;> first | (simp [Sem.run_pure]; done) | exact absurd rfl (hd _)
      · match k, hk with
        | 0, _ => exact h
        | 1, _ => exact .val _ _ (.bool true)) c

/-- An interface value held against nil. -/
def D.ifaceNil : D → Option Bool
  | .val .nilIface => some true
  | .iface _ _ | .val (.iface _ _) => some false
  | _ => none

theorem sl_iface_nil {x : Operand} {t t' : TypeId} {b : Bool} {op : BinOp} (hg : o.guard = none) (ho : o.op = .binOp op t x (.const .nilIface) t') (hx : (evalO s x).ifaceNil = some b)
    (ht : ∃ ms, P.underlying t = some (.interface ms)) (hop : op = .eql ∨ op = .neq)
    (c : SL P ops rest Q (sput s o.dst (.val (.bool (if op = .eql then b else !b)))) δ σ) : SL P ops (o :: rest) Q s δ σ :=
  sl_pure hg (fun G a w hi hr => by
    obtain ⟨ms, ht⟩ := ht
    have h1 := hr.eval x
    have hg : (eqGuard op t x (.const .nilIface) (a.eval x) .nilIface).run P w = .ok () w := by
      generalize a.eval x = v at h1
      rcases hop with rfl | rfl <;> cases v <;> first | rfl | (cases x <;> rfl)
    have hb : (Op.equal t (a.eval x) .nilIface).run P w = .ok b w := by
      generalize a.eval x = v at h1
      have hh : ∀ d, (Op.equalIn (d + 1) t v .nilIface).run P w = .ok b w := fun d => by
        generalize evalO s x = dd at h1 hx
        cases h1 with
        | iface t v d h => simp only [D.ifaceNil, Option.some.injEq] at hx; subst hx; simp only [Op.equalIn, Sem.run_bind, run_under ht, Result.andThen_ok, Sem.run_pure]
        | val _ y h =>
          cases h <;> simp only [D.ifaceNil, Option.some.injEq, reduceCtorEq] at hx <;> subst hx <;> simp only [Op.equalIn, Sem.run_bind, run_under ht, Result.andThen_ok, Sem.run_pure]
        | _ => simp [D.ifaceNil] at hx
      exact hh 9999
    refine ⟨.bool (if op = .eql then b else !b), run_execBin ho hg ?_, rep_bin (.bool _)⟩
    generalize a.eval x = v at hb
    show (binOp op t v .nilIface).run P w = _
    rcases hop with rfl | rfl
    · cases v <;> simp only [binOp, Sem.run_bind, hb, Result.andThen_ok, Sem.run_pure, if_true]
    · cases v <;> simp only [binOp, Sem.run_bind, hb, Result.andThen_ok, Sem.run_pure, reduceCtorEq, if_false]) c

def notIf (P : Program) (t : TypeId) : Bool :=
  match P.underlying t with
  | some (.interface _) => false
  | some _ => true
  | none => false

def isIf (P : Program) (t : TypeId) : Bool :=
  match P.underlying t with
  | some (.interface _) => true
  | _ => false

theorem notIf_of {t : TypeId} (h : notIf P t = true) : ∃ d, P.underlying t = some d ∧ ∀ ms, d ≠ .interface ms := by
  unfold notIf at h
  split at h
  · cases h
  · rename_i d hn e; exact ⟨d, e, fun ms hm => hn ms hm⟩
  · cases h

theorem isIf_of {t : TypeId} (h : isIf P t = true) : ∃ ms, P.underlying t = some (.interface ms) := by
  unfold isIf at h
  split at h
  · rename_i ms e; exact ⟨ms, e⟩
  · cases h

theorem sl_mi' {t : TypeId} {x : Operand} {dd : D} (hg : o.guard = none) (ho : o.op = .makeInterface t x) (ht : notIf P t = true) (hx : opd s x = some dd)
    (c : SL P ops rest Q (sput s o.dst (ifaceOf t dd)) δ σ) : SL P ops (o :: rest) Q s δ σ := by
  obtain ⟨d, h1, h2⟩ := notIf_of ht
  exact sl_mi hg ho h1 h2 hx c

theorem sl_ta {x : Operand} {t xt : TypeId} {d : D} (hg : o.guard = none) (ho : o.op = .typeAssert x xt t true) (hx : evalO s x = .iface t d) (ht : notIf P t = true)
    (c : SL P ops rest Q (sput s o.dst (.tup [d, .val (.bool true)])) δ σ) : SL P ops (o :: rest) Q s δ σ := by
  obtain ⟨td, h1, h2⟩ := notIf_of ht
  exact sl_assert_ok hg ho hx h1 h2 c

theorem sl_eq_if {x : Operand} {t t' : TypeId} {b : Bool} (hg : o.guard = none) (ho : o.op = .binOp .eql t x (.const .nilIface) t') (hx : (evalO s x).ifaceNil = some b) (ht : isIf P t = true)
    (c : SL P ops rest Q (sput s o.dst (.val (.bool b))) δ σ) : SL P ops (o :: rest) Q s δ σ := sl_iface_nil hg ho hx (isIf_of ht) (.inl rfl) c

theorem sl_ne_if {x : Operand} {t t' : TypeId} {b : Bool} (hg : o.guard = none) (ho : o.op = .binOp .neq t x (.const .nilIface) t') (hx : (evalO s x).ifaceNil = some b) (ht : isIf P t = true)
    (c : SL P ops rest Q (sput s o.dst (.val (.bool (!b)))) δ σ) : SL P ops (o :: rest) Q s δ σ := sl_iface_nil hg ho hx (isIf_of ht) (.inr rfl) c

theorem sl_case_at (t : Tmp) {l : List Oper} {b : Bool} (hb : evalO s (.tmp t) = .val (.bool b)) (hy : b = true → SL P ops l Q s δ σ) (hn : b = false → SL P ops l Q s δ σ) : SL P ops l Q s δ σ := by
  cases b
  · exact hn rfl
  · exact hy rfl

theorem sa_case_at (t : Tmp) {fuel : Nat} {listed : Array Bool} {K : Exacts} {b : Bool} (hb : evalO s (.tmp t) = .val (.bool b)) (hy : b = true → SA P ops fuel listed Q s δ σ K)
    (hn : b = false → SA P ops fuel listed Q s δ σ K) : SA P ops fuel listed Q s δ σ K := by
  cases b
  · exact hn rfl
  · exact hy rfl

/-- From here on only this is known. -/
theorem sw_cutk {x y : Code} (s' : Slots) (σ' : List Chunk) (p : Prop) (h : SW P x (thenQ (fun s1 δ1 σ1 => SWk s1 s' ∧ Sub σ' σ1 ∧ δ1 = δ ∧ p) Q) s δ σ) (k : p → SW P y Q s' δ σ') :
    SW P x (thenQ (SW P y Q) Q) s δ σ := sw_mono h fun e s1 δ1 σ1 hq => by
  cases e with
  | normal =>
    obtain ⟨h1, h2, rfl, h4⟩ := hq
    exact sw_weak h1 (sw_less h2 (k h4))
  | exit id => exact hq
  | goto l => exact hq
  | ret => exact hq
  | panic ch => exact hq
  | outgrown => exact hq

/-- A result that lies in a cell of an owned block. -/
theorem res_cell {fn : Func} {t : Tmp} {ty : TypeId} {b f : Nat} {ds : List D} {d : D} (h : fn.results = #[.cell t ty]) (hs : evalO s (.tmp t) = .ptr b f) (ha : aggOf P ty = some false)
    (hm : (.blk b ds) ∈ σ) (hd : ds[f]? = some d) : ResD P fn s σ d := fun G a w hi ⟨_, hr⟩ => by
  obtain ⟨h0, rfl⟩ := List.getElem?_eq_some_iff.mp hd
  obtain ⟨vs, h2, h3⟩ := cell_of_blk hi hm
  have h1 := hr.eval (.tmp t); rw [hs] at h1; have e1 := rep_ptr h1
  have e1 : a.tmps.getD t undef = .pointer (some ⟨b, f, none⟩) := e1
  refine ⟨vs f, ?_, h3 f h0⟩
  unfold results
  have hl : (loadVar ty ⟨b, f, none⟩).run P w = .ok (vs f) w := by
    have := run_load_one (P := P) (w := w) ha (h2 f h0)
    simpa only [Instr.loadAt, Instr.sureAddr, Sem.run_bind, Sem.run_pure, Result.andThen_ok] using this
  have : ∀ (g : ResultVar → Sem Value), (Array.mapM g #[ResultVar.cell t ty]) = (do let x ← g (.cell t ty); pure #[x]) := fun g => by
    rw [show (#[ResultVar.cell t ty]) = [ResultVar.cell t ty].toArray from rfl, List.mapM_toArray]
    simp
  rw [h, this]
  simp only [e1, asAddr, Sem.run_bind, Sem.run_pure, Result.andThen_ok, hl]
  rfl

end rules
end Go.Proofs.Ytioechdfghglhaa.SL
