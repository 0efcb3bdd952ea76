/- The program logic, ninth part: regions that draw their order. -/
import Derived.Test.YtioechdfghglhaaSlH
namespace Go.Proofs.Ytioechdfghglhaa.SL
set_option linter.unusedVariables false
set_option linter.unusedSimpArgs false
open Go Go.RowKit

/-- Cells of owned blocks that are to stay what they are through a region. -/
abbrev Exacts := List (Nat × Nat × Value)

def Kept (C : Imm) (K : Exacts) (w : World) : Prop := (∀ b o v, C b o = some v → w.cell? ⟨b, o, none⟩ = some v) ∧ ∀ x ∈ K, w.cell? ⟨x.1, x.2.1, none⟩ = some x.2.2

/-- The one value that reads as this datum. -/
def D.exact : D → Option Value
  | .val (.bool b) => some (.bool b)
  | .val (.int k n) => some (.int k n)
  | .val .nil => some (.pointer none)
  | .ptr b o => some (.pointer (some ⟨b, o, none⟩))
  | .sl b o n c => some (.slice (some ⟨b, o, none⟩) n c)
  | .own v _ => some v
  | _ => none

theorem exact_rep {C : Imm} {u v : Value} {d : D} (r : RepD C u d) (h : d.exact = some v) : u = v := by
  unfold D.exact at h
  split at h <;> simp only [Option.some.injEq, reduceCtorEq] at h <;> subst h
  · exact rep_bool r
  · exact rep_int r
  · cases r with | val _ _ h => cases h; rfl
  · exact rep_ptr r
  · exact rep_sl r
  · cases r; rfl

/-- What an owned block says of a cell. -/
def ExactsOf (K : Exacts) (σ : List Chunk) : Prop := ∀ x ∈ K, ∃ ds d, (.blk x.1 ds) ∈ σ ∧ ds[x.2.1]? = some d ∧ d.exact = some x.2.2

theorem kept_of {G : Gh} {σ : List Chunk} {w : World} {K : Exacts} (hi : Inv G σ w) (h : ExactsOf K σ) : Kept G.C K w := by
  refine ⟨hi.agree, fun x hx => ?_⟩
  obtain ⟨ds, d, h1, h2, h3⟩ := h x hx
  obtain ⟨hlt, rfl⟩ := List.getElem?_eq_some_iff.mp h2
  obtain ⟨vs, g1, g2⟩ := cell_of_blk hi h1
  rw [g1 _ hlt, exact_rep (g2 _ hlt) h3]

/-- An operation that leaves this datum whatever else has been done. -/
def PureOp (P : Program) (K : Exacts) (s : Slots) (δ : Defs) (o : Oper) (d : D) : Prop :=
  ∀ G a, RelA G s δ a → ∃ v, RepD G.C v d ∧ ∀ w, Kept G.C K w → (execOp a.eval o).run P w = .ok (.value v) w

/-- Whatever order is drawn from here on. -/
def SA (P : Program) (ops : Array Oper) (fuel : Nat) (listed : Array Bool) (Q : Post) (s : Slots) (δ : Defs) (σ : List Chunk) (K : Exacts) : Prop :=
  ∀ G a w, Inv G σ w → RelA G s δ a → wpAnyH P .any ops (Lift G Q) (Kept G.C K) fuel listed a w

/-- On a panic nothing is asked of the slots. -/
class PanicOk (Q : Post) : Prop where
  ok : ∀ ch s s' δ σ, Q (.panic ch) s δ σ → Q (.panic ch) s' δ σ

theorem wpAnyH_mono {P : Program} {md : Region.Mode} {ops : Array Oper} {Q Q' : Exit → Act → World → Prop} {S S' : World → Prop} (hq : ∀ e a w, Q e a w → Q' e a w) (hs : ∀ w, S w → S' w) :
    ∀ (fuel : Nat) (listed : Array Bool) (a : Act) (w : World), wpAnyH P md ops Q S fuel listed a w → wpAnyH P md ops Q' S' fuel listed a w
  | 0, _, _, _, h => ⟨h.1, hq _ _ _ h.2⟩
  | fuel + 1, listed, a, w, h => by
    refine ⟨fun hr => hq _ _ _ (h.1 hr), fun i hi => ?_⟩
    have h1 := h.2 i hi
    unfold wpOp at h1 ⊢
    split at h1
    · rename_i ho
      exact ⟨hs _ h1.1, wpAnyH_mono hq hs fuel _ _ _ h1.2⟩
    · rename_i o ho
      split at h1 <;> rename_i hw
      · simp only [hw, if_true]
        rcases h1 with h1 | ⟨h1, h2⟩
        · exact .inl (Oper.wp_mono2 (fun a w hk => ⟨hs _ hk.1, wpAnyH_mono hq hs fuel _ _ _ hk.2⟩) hq h1)
        · exact .inr ⟨h1, LetsOut.mono hq h2⟩
      · simp only [hw]
        exact ⟨hs _ h1.1, wpAnyH_mono hq hs fuel _ _ _ h1.2⟩

section rules
variable {P : Program} {ops : Array Oper} {Q : Post} {s : Slots} {δ : Defs} {σ : List Chunk} {K : Exacts} {fuel : Nat} {listed : Array Bool}

theorem SA.use {G G' : Gh} (hle : G.le G') (h : SA P ops fuel listed Q s δ σ K) {a : Act} {w : World} (hi : Inv G' σ w) (hr : RelA G' s δ a) : wpAnyH P .any ops (Lift G Q) (Kept G.C K) fuel listed a w :=
  wpAnyH_mono (fun _ _ _ l => l.mono hle) (fun w hk => ⟨fun b o v hv => hk.1 b o v (hle.2 b o v hv), hk.2⟩) _ _ _ _ (h G' a w hi hr)

theorem sa_start {id : Nat} {l : List Oper} (K : Exacts) (hm : P.follows .mixedOrders = true) (h : SA P l.toArray l.length (Array.replicate l.length false) Q s δ σ K) : SW P (.region id l.toArray true) Q s δ σ := fun G a w hi hr => by
  have h1 := h G a w.drew hi.drew hr
  refine wp_region_held (S := Kept G.C K) hm ?_
  simpa using h1

theorem sa_done (hr : Region.ready .any ops listed = []) (h : Q .normal s δ σ) : SA P ops fuel listed Q s δ σ K := fun G a w hi hrel =>
  wpAnyH_done hr ⟨G, s, δ, σ, G.le_refl, hi, hrel, h⟩ _

theorem lift_panic {G : Gh} (hQ : PanicOk Q) {c : List PanicEntry} {a : Act} {dst : Option Tmp} {v : Value} {w : World} (h : Lift G Q (.panic c) (a.put dst v) w) : Lift G Q (.panic c) a w := by
  obtain ⟨G', s', δ', σ', h1, h2, h3, h4⟩ := h
  refine ⟨G', ⟨a.tmps.size, .nil⟩, δ', σ', h1, h2, ⟨rfl, fun k hk => .junk _, ?_, ?_⟩, hQ.ok _ _ _ _ _ h4⟩
  · have := h3.defs
    cases dst <;> exact this
  · intro k hk
    obtain ⟨cap, args, g1, g2⟩ := h3.defd k hk
    refine ⟨cap, args, ?_, g2⟩
    cases dst <;> exact g1

/-- A pure operation may be taken first. -/
theorem sa_take (i : Nat) {o : Oper} {d : D} (ho : ops[i]? = some o) (hg : o.guard = none) (hs : Region.noSelect ops = true) (hf : Region.free .any ops listed i = true)
    (hr : (Region.ready .any ops listed).contains i = true) [hQ : PanicOk Q] (hK : ExactsOf K σ) (hp : PureOp P K s δ o d)
    (h : SA P ops fuel (listed.setIfInBounds i true) Q (sput s o.dst d) δ σ K) : SA P ops (fuel + 1) listed Q s δ σ K := fun G a w hi hrel => by
  obtain ⟨v, h1, h2⟩ := hp G a hrel
  exact wpAnyH_take ho hs hf hr (fun c a w hl => lift_panic hQ hl) (.inl ⟨by simp [Region.wanted, hg], h2⟩) (kept_of hi hK) (h G _ w hi (hrel.put o.dst h1))

/-- An operation under a guard that is known. -/
theorem sa_take_y (i : Nat) {o : Oper} {d : D} {j : Nat} {want b : Bool} {t : Tmp} (ho : ops[i]? = some o) (hg : o.guard = some (j, want)) (hj : (ops[j]?).bind (·.dst) = some t) (hb : evalO s (.tmp t) = .val (.bool b)) (hbw : b = want)
    (hs : Region.noSelect ops = true) (hf : Region.free .any ops listed i = true)
    (hr : (Region.ready .any ops listed).contains i = true) [hQ : PanicOk Q] (hK : ExactsOf K σ) (hp : PureOp P K s δ o d)
    (h : SA P ops fuel (listed.setIfInBounds i true) Q (sput s o.dst d) δ σ K) : SA P ops (fuel + 1) listed Q s δ σ K := fun G a w hi hrel => by
  obtain ⟨v, h1, h2⟩ := hp G a hrel
  have he := evalO_bool hrel hb
  have hyd : yielded ops a.tmps j = some b := by
    unfold yielded
    simp only [hj, Option.bind_some]
    simp only [Act.eval] at he
    have : t < a.tmps.size := by
      rcases Nat.lt_or_ge t a.tmps.size with h | h
      · exact h
      · simp [h, undef] at he
    rw [Array.getElem?_eq_getElem this]
    simp only [Array.getD_eq_getD_getElem?, Array.getElem?_eq_getElem this, Option.getD_some] at he
    rw [he]
  exact wpAnyH_take ho hs hf hr (fun c a w hl => lift_panic hQ hl) (.inl ⟨by simp [Region.wanted, hg, hyd, hbw], h2⟩) (kept_of hi hK) (h G _ w hi (hrel.put o.dst h1))

theorem sa_take_n (i : Nat) {o : Oper} {j : Nat} {want b : Bool} {t : Tmp} (ho : ops[i]? = some o) (hg : o.guard = some (j, want)) (hj : (ops[j]?).bind (·.dst) = some t) (hb : evalO s (.tmp t) = .val (.bool b)) (hbw : b = !want)
    (hs : Region.noSelect ops = true) (hf : Region.free .any ops listed i = true)
    (hr : (Region.ready .any ops listed).contains i = true) [hQ : PanicOk Q] (hK : ExactsOf K σ)
    (h : SA P ops fuel (listed.setIfInBounds i true) Q (sput s o.dst (.tup [])) δ σ K) : SA P ops (fuel + 1) listed Q s δ σ K := fun G a w hi hrel => by
  have he := evalO_bool hrel hb
  have hyd : yielded ops a.tmps j = some b := by
    unfold yielded
    simp only [hj, Option.bind_some]
    simp only [Act.eval] at he
    have : t < a.tmps.size := by
      rcases Nat.lt_or_ge t a.tmps.size with h | h
      · exact h
      · simp [h, undef] at he
    rw [Array.getElem?_eq_getElem this]
    simp only [Array.getD_eq_getD_getElem?, Array.getElem?_eq_getElem this, Option.getD_some] at he
    rw [he]
  exact wpAnyH_take (v := undef) ho hs hf hr (fun c a w hl => lift_panic hQ hl) (.inr ⟨by simp [Region.wanted, hg, hyd, hbw], rfl⟩) (kept_of hi hK) (h G _ w hi (hrel.put o.dst (rep_undef G.C)))

/-- What is left to do behind one operation. -/
def stepQ (N : Slots → Defs → List Chunk → Prop) (Q : Post) : Post
  | .normal, s, δ, σ => N s δ σ
  | e, s, δ, σ => Q e s δ σ

theorem wpOp_of_list {i : Nat} {o : Oper} {a : Act} {w : World} {R R' : Exit → Act → World → Prop} {N : Act → World → Prop} (ho : ops[i]? = some o) (h : wpList P ops R [o] a w) (hn : ∀ a w, R .normal a w → N a w)
    (hq : ∀ e a w, e ≠ .normal → R e a w → R' e a w) : wpOp P ops R' i N a w := by
  unfold wpOp
  simp only [ho]
  unfold wpList at h
  have key : ∀ (oo : Oper) (a : Act) (w : World), oo.wp P a w (wpList P ops R []) R → oo.wp P a w N R' := by
    intro oo a w hh
    unfold Oper.wp at *
    generalize (execOp a.eval oo).run P w = r at *
    cases r with
    | ok n w' =>
      cases n <;> simp only [Oper.upon] at hh ⊢ <;>
        first
          | exact hn _ _ hh
          | exact Calls.mono hh (fun e w'' he => by cases e <;> first | exact hn _ _ he | exact hq _ _ _ (by simp) he | (obtain ⟨a0, w0, h0⟩ := he; exact ⟨a0, w0, hq _ _ _ (by simp) h0⟩))
          | exact Rows.mono hh (fun _ _ he => hn _ _ he)
    | halt x w' => cases x <;> simp only [Oper.upon] at hh ⊢ <;> exact hq _ _ _ (by simp) hh
  split at h <;> rename_i hw
  · rw [if_pos hw]
    rcases h with h | ⟨h1, a0, w0, h2⟩
    · exact .inl (key o a w h)
    · exact .inr ⟨h1, a0, w0, hq _ _ _ (by simp) h2⟩
  · rw [if_neg hw]; exact hn _ _ h

/-- Each operation that may come now. -/
theorem sa_all {rs : List Nat} (hr : Region.ready .any ops listed = rs) (hne : rs ≠ [])
    (h : ∀ i ∈ rs, ∃ o, ops[i]? = some o ∧ SL P ops [o] (stepQ (fun s δ σ => ExactsOf K σ ∧ SA P ops fuel (listed.setIfInBounds i true) Q s δ σ K) Q) s δ σ) :
    SA P ops (fuel + 1) listed Q s δ σ K := fun G a w hi hrel => by
  refine wpAnyH_all hr hne fun i him => ?_
  obtain ⟨o, ho, hsl⟩ := h i him
  refine wpOp_of_list ho (hsl G a w hi hrel) (fun a' w' hl => ?_) (fun e a' w' hne' hl => ?_)
  · obtain ⟨G', s', δ', σ', h1, h2, h3, h4, h5⟩ := hl
    have hk := kept_of h2 h4
    exact ⟨⟨fun b o v hv => hk.1 b o v (h1.2 b o v hv), hk.2⟩, h5.use h1 h2 h3⟩
  · obtain ⟨G', s', δ', σ', h1, h2, h3, h4⟩ := hl
    cases e with
    | normal => exact absurd rfl hne'
    | exit id => exact ⟨G', s', δ', σ', h1, h2, h3, h4⟩
    | goto l => exact ⟨G', s', δ', σ', h1, h2, h3, h4⟩
    | ret => exact ⟨G', s', δ', σ', h1, h2, h3, h4⟩
    | panic ch => exact ⟨G', s', δ', σ', h1, h2, h3, h4⟩
    | outgrown => exact ⟨G', s', δ', σ', h1, h2, h3, h4⟩

theorem sa_one (i : Nat) {o : Oper} (hr : Region.ready .any ops listed = [i]) (ho : ops[i]? = some o)
    (h : SL P ops [o] (stepQ (fun s δ σ => ExactsOf K σ ∧ SA P ops fuel (listed.setIfInBounds i true) Q s δ σ K) Q) s δ σ) : SA P ops (fuel + 1) listed Q s δ σ K :=
  sa_all hr (by simp) fun j hj => by
    have : j = i := by simpa using hj
    subst this
    exact ⟨o, ho, h⟩

theorem exacts_nil : ExactsOf [] σ := fun x hx => absurd hx (by simp)

theorem exacts_cons {b i : Nat} {v : Value} {ds : List D} {d : D} (h1 : (.blk b ds) ∈ σ) (h2 : ds[i]? = some d) (h3 : d.exact = some v) (h : ExactsOf K σ) : ExactsOf ((b, i, v) :: K) σ := fun x hx => by
  rcases List.mem_cons.mp hx with rfl | hx
  · exact ⟨ds, d, h1, h2, h3⟩
  · exact h x hx

instance panicOk_then {N : Slots → Defs → List Chunk → Prop} [h : PanicOk Q] : PanicOk (thenQ N Q) := ⟨fun ch s s' δ σ hq => h.ok ch s s' δ σ hq⟩
instance panicOk_step {N : Slots → Defs → List Chunk → Prop} [h : PanicOk Q] : PanicOk (stepQ N Q) := ⟨fun ch s s' δ σ hq => h.ok ch s s' δ σ hq⟩
instance panicOk_block {id : Nat} [h : PanicOk Q] : PanicOk (inBlockQ id Q) := ⟨fun ch s s' δ σ hq => h.ok ch s s' δ σ hq⟩
instance panicOk_body {fn : Func} {R : D → List Chunk → Prop} {Rp : List PanicEntry → List Chunk → Prop} : PanicOk (bodyQ P fn R Rp) := ⟨fun ch s s' δ σ hq => hq⟩

/-! ### The pure operations -/

variable {o : Oper}

theorem pu_move {x : Operand} (ho : o.op = .move x) : PureOp P K s δ o (evalO s x) := fun G a hr => ⟨a.eval x, hr.eval x, fun w _ => by simp only [execOp, ho]; rfl⟩

theorem pu_pick_t {cd x y : Operand} {b : Bool} (ho : o.op = .pick cd x y) (hb : evalO s cd = .val (.bool b)) (h : b = true) : PureOp P K s δ o (evalO s x) := fun G a hr => ⟨a.eval x, hr.eval x, fun w _ => by
  have := evalO_bool hr hb
  subst h
  simp [execOp, ho, this, asBool]⟩

theorem pu_pick_f {cd x y : Operand} {b : Bool} (ho : o.op = .pick cd x y) (hb : evalO s cd = .val (.bool b)) (h : b = false) : PureOp P K s δ o (evalO s y) := fun G a hr => ⟨a.eval y, hr.eval y, fun w _ => by
  have := evalO_bool hr hb
  subst h
  simp [execOp, ho, this, asBool]⟩

theorem pu_bin {op : BinOp} {t t' : TypeId} {x y : Operand} {k : IntKind} {m n : Int} {z : V} (ho : o.op = .binOp op t x y t')
    (hx : evalO s x = .val (.int k m)) (hy : evalO s y = .val (.int k n)) (hz : binI op k m n = some z) : PureOp P K s δ o (.val z) := fun G a hr => by
  have h1 := hr.eval x; rw [hx] at h1; have h1 := rep_int h1
  have h2 := hr.eval y; rw [hy] at h2; have h2 := rep_int h2
  cases op <;> simp only [binI, Option.some.injEq, reduceCtorEq] at hz <;> subst hz <;>
    refine ⟨_, rep_bin (by first | exact .int _ _ | exact .bool _), fun w _ => ?_⟩ <;>
    simp [execOp, ho, h1, h2, run_guard_int, binOp, Op.intArith, Op.intBits, Op.intCmp]

theorem pu_rem {t t' : TypeId} {x y : Operand} {k : IntKind} {m n : Int} (ho : o.op = .binOp .rem t x y t')
    (hx : evalO s x = .val (.int k m)) (hy : evalO s y = .val (.int k n)) (hn : n ≠ 0) : PureOp P K s δ o (.val (.int k (m.tmod n))) := fun G a hr => by
  have h1 := hr.eval x; rw [hx] at h1; have h1 := rep_int h1
  have h2 := hr.eval y; rw [hy] at h2; have h2 := rep_int h2
  refine ⟨_, rep_bin (.int _ _), fun w _ => ?_⟩
  simp [execOp, ho, h1, h2, run_guard_int, binOp, Op.intDiv, hn]

theorem pu_not {t : TypeId} {x : Operand} {b : Bool} (ho : o.op = .unOp .not t x) (hx : evalO s x = .val (.bool b)) : PureOp P K s δ o (.val (.bool (!b))) := fun G a hr => by
  have h1 := hr.eval x; rw [hx] at h1; have h1 := rep_bool h1
  refine ⟨_, rep_bin (.bool _), fun w _ => ?_⟩
  simp [execOp, ho, h1, Op.unary]

theorem pu_conv_int {t t' : TypeId} {x : Operand} {k k' : IntKind} {m : Int} (ho : o.op = .convert t t' x) (hx : evalO s x = .val (.int k m))
    (ht : (P.underlying t).isSome = true) (ht' : P.underlying t' = some (.int k')) : PureOp P K s δ o (.val (.int k' (k'.wrap m))) := fun G a hr => by
  have h1 := hr.eval x; rw [hx] at h1; have h1 := rep_int h1
  obtain ⟨d, hd⟩ := Option.isSome_iff_exists.mp ht
  refine ⟨_, rep_bin (.int _ _), fun w _ => ?_⟩
  simp only [execOp, ho, h1, convert, underlying, Sem.run_bind, run_program, Result.andThen_ok, hd, ht', Sem.run_pure]
  cases d <;> simp [Conv.intToInt]

theorem pu_bool_eq {t t' : TypeId} {x y : Operand} {m n : Bool} (ho : o.op = .binOp .eql t x y t')
    (hx : evalO s x = .val (.bool m)) (hy : evalO s y = .val (.bool n)) (ht : P.underlying t = some .bool) : PureOp P K s δ o (.val (.bool (m == n))) := fun G a hr => by
  have h1 := hr.eval x; rw [hx] at h1; have h1 := rep_bool h1
  have h2 := hr.eval y; rw [hy] at h2; have h2 := rep_bool h2
  exact ⟨_, rep_bin (.bool _), fun w _ => run_execBin ho (by rw [h1, h2]; exact run_guard_bool ..) (by rw [h1, h2]; exact run_eql_bool P w t m n ht)⟩

theorem pu_str {op : BinOp} {t t' : TypeId} {x y : Operand} {m n : List UInt8} {z : V} (ho : o.op = .binOp op t x y t')
    (hx : evalO s x = .val (.str m)) (hy : evalO s y = .val (.str n)) (hz : binS op m n = some z) : PureOp P K s δ o (.val z) := fun G a hr => by
  have h1 := hr.eval x; rw [hx] at h1; obtain ⟨t1, e1, rfl⟩ := rep_str h1
  have h2 := hr.eval y; rw [hy] at h2; obtain ⟨t2, e2, rfl⟩ := rep_str h2
  cases op <;> simp only [binS, Option.some.injEq, reduceCtorEq] at hz <;> subst hz <;>
    exact ⟨_, rep_bin (.bool _), fun w _ => run_execBin ho (by rw [e1, e2]; exact run_guard_str ..) (by rw [e1, e2]; simp only [binOp, Op.stringOp, Sem.run_pure, toList_data])⟩

theorem pu_nilCheck {x : Operand} (ho : o.op = .nilCheck x) (hx : (evalO s x).sure = true) : PureOp P K s δ o (evalO s x) := fun G a hr => by
  have h1 := hr.eval x
  refine ⟨a.eval x, h1, fun w _ => ?_⟩
  generalize evalO s x = d at h1 hx
  generalize hv : a.eval x = v at h1
  cases h1 with
  | ptr b f => simp [execOp, ho, hv]
  | rp b f xs vs _ _ => simp [execOp, ho, hv]
  | func f vs ds _ _ => simp [execOp, ho, hv]
  | val _ y h => cases h <;> first | (simp [D.sure] at hx; done) | simp [execOp, ho, hv]
  | _ => simp [D.sure] at hx

theorem pu_fieldAddr_ptr {t : TypeId} {x : Operand} {i off b f : Nat} (ho : o.op = .fieldAddr t x i) (hx : evalO s x = .ptr b f) (hf : fieldOff P t i = some off) : PureOp P K s δ o (.ptr b (f + off)) := fun G a hr => by
  have h1 := hr.eval x; rw [hx] at h1; have e1 := rep_ptr h1
  exact ⟨_, .ptr _ _, fun w _ => by simp only [execOp, ho, e1, Sem.run_bind, run_fieldAt hf, Result.andThen_ok, Sem.run_pure]⟩

theorem pu_fieldAddr_rp {t : TypeId} {x : Operand} {i off : Nat} {xs : List V} (ho : o.op = .fieldAddr t x i) (hx : evalO s x = .rp xs) (hf : fieldOff P t i = some off) : PureOp P K s δ o (.rp (xs.drop off)) := fun G a hr => by
  have h1 := hr.eval x; rw [hx] at h1; obtain ⟨b, f, vs, e1, h2, h3⟩ := rep_rp h1
  exact ⟨_, rep_rp_drop off h2 h3, fun w _ => by simp only [execOp, ho, e1, Sem.run_bind, run_fieldAt hf, Result.andThen_ok, Sem.run_pure]⟩

theorem pu_fieldAddr_ref {t : TypeId} {x : Operand} {i off : Nat} {y : V} (ho : o.op = .fieldAddr t x i) (hx : evalO s x = .val (.ref y)) (hf : fieldOff P t i = some off) : PureOp P K s δ o (.rp (y.cells.drop off)) := fun G a hr => by
  have h1 := hr.eval x; rw [hx] at h1; obtain ⟨b, f, vs, e1, h2, h3⟩ := rep_rp (Weak.ref y _ _ h1)
  exact ⟨_, rep_rp_drop off h2 h3, fun w _ => by simp only [execOp, ho, e1, Sem.run_bind, run_fieldAt hf, Result.andThen_ok, Sem.run_pure]⟩

theorem pu_load_rp1 {t : TypeId} {x : Operand} {xs : List V} {y : V} (ho : o.op = .load t x) (hx : evalO s x = .rp xs) (ht : aggOf P t = some false) (hy : xs[0]? = some y) : PureOp P K s δ o (.val y) := fun G a hr => by
  have h1 := hr.eval x; rw [hx] at h1; obtain ⟨b, f, vs, e1, h2, h3⟩ := rep_rp h1
  obtain ⟨h0, rfl⟩ := List.getElem?_eq_some_iff.mp hy
  exact ⟨vs 0, .val _ _ (h3 0 h0), fun w hk => run_op_load ho (by rw [e1]; exact run_load_one ht (hk.1 _ _ _ (h2 0 h0)))⟩

theorem pu_load_rpn {t : TypeId} {x : Operand} {xs : List V} {n : Nat} (ho : o.op = .load t x) (hx : evalO s x = .rp xs) (ht : aggOf P t = some true) (hn : szOf P t = some n) (hle : n ≤ xs.length) :
    PureOp P K s δ o (.val (.agg (xs.take n))) := fun G a hr => by
  have h1 := hr.eval x; rw [hx] at h1; obtain ⟨b, f, vs, e1, h2, h3⟩ := rep_rp h1
  refine ⟨.agg ((List.range n).map vs).toArray, .val _ _ (.agg _ _ (by simp; omega) (fun k hk => ?_)), fun w hk => run_op_load ho (by rw [e1]; exact run_load_agg ht hn (fun k hk' => hk.1 _ _ _ (h2 k (by omega))))⟩
  have hk' : k < n := by simp at hk; omega
  rw [range_getD n k vs hk', List.getElem_take]
  exact h3 k (by omega)

/-- A load from an owned block: of a cell that stays what it is. -/
theorem pu_load_blk1 {t : TypeId} {x : Operand} {b f : Nat} {v : Value} {d : D} (ho : o.op = .load t x) (hx : evalO s x = .ptr b f) (ht : aggOf P t = some false) (hK : (b, f, v) ∈ K)
    (hd : ∀ G a, RelA G s δ a → RepD G.C v d) : PureOp P K s δ o d := fun G a hr => by
  have h1 := hr.eval x; rw [hx] at h1; have e1 := rep_ptr h1
  exact ⟨v, hd G a hr, fun w hk => run_op_load ho (by rw [e1]; exact run_load_one ht (hk.2 _ hK))⟩

theorem pu_indexAddr {t e : TypeId} {x i : Operand} {k : IntKind} {n : Int} {xs : List V} {y : V} {sz : Nat} (ho : o.op = .indexAddr t x i)
    (hx : (evalO s x).asList = some xs) (hn : evalO s i = .val (.int k n)) (ht : P.underlying t = some (.slice e)) (hs : szOf P e = some sz)
    (h0 : 0 ≤ n) (hy : xs[n.toNat]? = some y) (hsz : y.cells.length = sz) : PureOp P K s δ o (.rp y.cells) := fun G a hr => by
  have h1 := asList_rep (hr.eval x) hx
  have h2 := hr.eval i; rw [hn] at h2; have e2 := rep_int h2
  obtain ⟨hlt, rfl⟩ := List.getElem?_eq_some_iff.mp hy
  generalize hv : a.eval x = v at h1
  cases h1 with
  | empty => simp at hlt
  | list b f cp sz' xs vs h1 h3 h4 h5 =>
    have hz : sz' = sz := by rw [← h3 _ hlt, hsz]
    subst hz
    refine ⟨.pointer (some ⟨b, f + n.toNat * sz', none⟩), .rp _ _ _ (vs n.toNat) (fun k hk => ?_) (fun k hk => h5 _ _ hlt hk), fun w _ => ?_⟩
    · exact h4 _ _ hlt (by rw [← hsz]; exact hk)
    · have hin : 0 ≤ n ∧ n < (xs.length : Int) := ⟨h0, by omega⟩
      simp only [execOp, ho, hv, e2, Instr.indexAt, asIntOf, Sem.run_bind, Sem.run_pure, Result.andThen_ok, run_under ht, hin, and_self, if_true, run_sizeOf hs, addr_add]

theorem pu_len {t : TypeId} {x : Operand} {xs : List V} (ho : o.op = .call { callee := .builtin .len, args := #[x], argTypes := #[t] })
    (hx : (evalO s x).asList = some xs) (ht : ∃ e, P.underlying t = some (.slice e)) : PureOp P K s δ o (.val (.int .i64 xs.length)) := fun G a hr => by
  obtain ⟨e, he⟩ := ht
  obtain ⟨ad, cp, hv, _⟩ := rep_list_len (asList_rep (hr.eval x) hx)
  refine ⟨_, rep_bin (.int _ _), fun w _ => run_call_builtin ho ?_⟩
  simp only [builtin, List.map_toArray, List.map_cons, List.map_nil, Builtin.len_, Sem.run_bind, hv]
  simp only [List.getElem?_toArray, List.getElem?_cons_zero, Sem.run_bind, run_under he, Result.andThen_ok, Sem.run_pure, goInt]

theorem pu_len_str {t : TypeId} {x : Operand} {l : List UInt8} (ho : o.op = .call { callee := .builtin .len, args := #[x], argTypes := #[t] })
    (hx : evalO s x = .val (.str l)) (ht : P.underlying t = some .string) : PureOp P K s δ o (.val (.int .i64 l.length)) := fun G a hr => by
  have h1 := hr.eval x; rw [hx] at h1; obtain ⟨t1, e1, rfl⟩ := rep_str h1
  refine ⟨_, rep_bin (.int _ _), fun w _ => run_call_builtin ho ?_⟩
  simp only [builtin, List.map_toArray, List.map_cons, List.map_nil, Builtin.len_, Sem.run_bind, e1]
  simp only [List.getElem?_toArray, List.getElem?_cons_zero, Sem.run_bind, run_under ht, Result.andThen_ok, Sem.run_pure, goInt, Array.length_toList]
  rfl

theorem pu_build {t : TypeId} {parts : List (Nat × Operand)} {pl : List (Nat × Nat)} {zs ds : List D} (ho : o.op = .build t parts.toArray)
    (hp : buildInfo P t = some pl) (hz : zeroDs P t = some zs) (hf : fillD (fun i => pl[i]?) zs (parts.map fun p => (p.1, evalO s p.2)) = some ds) : PureOp P K s δ o (.agg ds) := fun G a hr => by
  obtain ⟨fs, hu, hrun⟩ := buildInfo_run hp
  obtain ⟨v, hv, hvr⟩ := zero_cells hz
  obtain ⟨cs', h1, h2, h3⟩ := fill_rep (C := G.C) (fun x => hr.eval x) parts v.cells zs ds (hvr G.C).1 (hvr G.C).2 hf
  refine ⟨.agg cs', .agg _ _ h2 h3, fun w _ => ?_⟩
  have hpl : ∀ i, pl.toArray[i]? = pl[i]? := fun i => List.getElem?_toArray ..
  have hm : (parts.toArray.map fun (i, x) => (i, a.eval x)).toList = parts.map fun p => (p.1, a.eval p.2) := by rw [List.map_toArray]
  simp only [execOp, ho, Instr.build, Sem.run_bind, run_zeroOf hv, Result.andThen_ok, run_under hu, hrun w, hm, hpl, h1, Sem.run_pure]

end rules
end Go.Proofs.Ytioechdfghglhaa.SL
