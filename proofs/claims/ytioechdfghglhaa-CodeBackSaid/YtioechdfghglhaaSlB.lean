/- The program logic, second part: weakening, freezing, the rules of control. -/
import Derived.Test.YtioechdfghglhaaSlA
namespace Go.Proofs.Ytioechdfghglhaa.SL
set_option linter.unusedVariables false
set_option linter.unusedSimpArgs false
open Go Go.RowKit

/-! ### Slots -/

def ofConst : Value → D
  | .bool b => .val (.bool b)
  | .int k n => .val (.int k n)
  | .string s => .val (.str s.data.toList)
  | .pointer none => .val .nil
  | .slice none 0 0 => .fix []
  | .nilFunc => .val .nilFunc
  | .nilIface => .val .nilIface
  | _ => .junk

theorem ofConst_rep (C : Imm) (v : Value) : RepD C v (ofConst v) := by
  unfold ofConst
  split
  · exact .val _ _ (.bool _)
  · exact .val _ _ (.int _ _)
  · exact .val _ _ (.str _)
  · exact .val _ _ .nil
  · exact .fix none [] (.empty none 0)
  · exact .val _ _ .nilFunc
  · exact .val _ _ .nilIface
  · exact .junk _

noncomputable def evalO (s : Slots) : Operand → D
  | .tmp t => cond (Nat.blt t s.n) (s.get t) .junk
  | .const v => ofConst v
  | .func f => .func f []
  | .global _ => .junk

theorem evalO_lt {s : Slots} {t : Nat} (h : t < s.n) : evalO s (.tmp t) = s.get t := by
  show cond (Nat.blt t s.n) _ _ = _
  rw [show Nat.blt t s.n = true by simpa [Nat.blt_eq] using h]; rfl
theorem evalO_ge {s : Slots} {t : Nat} (h : ¬ t < s.n) : evalO s (.tmp t) = .junk := by
  show cond (Nat.blt t s.n) _ _ = _
  rw [show Nat.blt t s.n = false by cases e : Nat.blt t s.n with | false => rfl | true => exact absurd (Nat.blt_eq.mp e) h]; rfl

theorem RelA.eval {G : Gh} {s : Slots} {δ : Defs} {a : Act} (r : RelA G s δ a) (x : Operand) : RepD G.C (a.eval x) (evalO s x) := by
  cases x with
  | tmp t =>
    by_cases h : t < s.n
    · rw [evalO_lt h]; exact r.slot t h
    · rw [evalO_ge h]; exact .junk _
  | const v => exact ofConst_rep _ v
  | func f => exact .func f #[] [] rfl (fun k hk => absurd hk (by simp))
  | global g => exact .junk _

def sput (s : Slots) : Option Tmp → D → Slots
  | some t, d => ⟨s.n, .cons t d s.l⟩
  | none, _ => s

theorem get_put (s : Slots) (t : Nat) (d : D) (k : Nat) : (sput s (some t) d).get k = if t = k then d else s.get k := by
  show orJunk (look (.cons t d s.l) k) = _
  rw [look_cons]
  split
  · rfl
  · rfl

theorem RelA.put {G : Gh} {s : Slots} {δ : Defs} {a : Act} (r : RelA G s δ a) (dst : Option Tmp) {v : Value} {d : D} (h : RepD G.C v d) :
    RelA G (sput s dst d) δ (a.put dst v) := by
  cases dst with
  | none => exact r
  | some t =>
    refine ⟨by simp [Act.put, sput, r.size], fun k hk => ?_, r.defs, r.defd⟩
    rw [get_put]
    have hk : k < s.n := hk
    simp only [Act.put]
    by_cases e : t = k
    · subst e
      have : t < a.tmps.size := by rw [r.size]; exact hk
      simp only [Array.getD_eq_getD_getElem?, Array.getElem?_setIfInBounds_self_of_lt this, Option.getD_some, if_true]; exact h
    · simp only [Array.getD_eq_getD_getElem?, Array.getElem?_setIfInBounds_ne e, if_neg e]
      have := r.slot k hk
      simpa only [Array.getD_eq_getD_getElem?] using this

/-- A slot read in another way. -/
theorem RelA.recast {G : Gh} {s : Slots} {δ : Defs} {a : Act} (r : RelA G s δ a) (t : Nat) {d : D} (h : ∀ v, RepD G.C v (s.get t) → RepD G.C v d) : RelA G (sput s (some t) d) δ a := by
  refine ⟨r.size, fun k hk => ?_, r.defs, r.defd⟩
  rw [get_put]
  have hk : k < s.n := hk
  split
  · rename_i e; subst e; exact h _ (r.slot _ hk)
  · exact r.slot k hk

/-! ### Weakening -/

def Weak (d d' : D) : Prop := ∀ C v, RepD C v d → RepD C v d'

theorem Weak.refl (d : D) : Weak d d := fun _ _ h => h
theorem Weak.junk (d : D) : Weak d .junk := fun _ v _ => .junk v
theorem Weak.trans {a b c : D} (h : Weak a b) (h' : Weak b c) : Weak a c := fun C v r => h' C v (h C v r)

mutual
def toV : D → Option V
  | .val x => some x
  | .fix xs => some (.list xs)
  | .own _ xs => some (.list xs)
  | .agg ds => (toVs ds).map .agg
  | .iface t d => (toV d).map (.iface t)
  | _ => none
def toVs : List D → Option (List V)
  | [] => some []
  | d :: ds => match toV d, toVs ds with
    | some x, some xs => some (x :: xs)
    | _, _ => none
end

theorem toVs_get : ∀ (ds : List D) (xs : List V), toVs ds = some xs → ds.length = xs.length ∧ ∀ k (h : k < ds.length) (h' : k < xs.length), toV ds[k] = some xs[k] := by
  intro ds
  induction ds with
  | nil => intro xs h; simp only [toVs, Option.some.injEq] at h; subst h; exact ⟨rfl, fun k h => absurd h (by simp)⟩
  | cons d ds ih =>
    intro xs h
    simp only [toVs] at h
    split at h
    · rename_i x ys hx hys
      simp only [Option.some.injEq] at h; subst h
      obtain ⟨h1, h2⟩ := ih ys hys
      refine ⟨by simp [h1], fun k hk hk' => ?_⟩
      cases k with
      | zero => exact hx
      | succ k => exact h2 k _ _
    · cases h

theorem toV_rep {C : Imm} {v : Value} {d : D} (r : RepD C v d) : ∀ x, toV d = some x → RepV C v x := by
  induction r with
  | val v x h => intro y e; simp only [toV, Option.some.injEq] at e; subst e; exact h
  | fix a xs h => intro y e; simp only [toV, Option.some.injEq] at e; subst e; exact h
  | ptr b o => intro y e; simp [toV] at e
  | rp b o xs vs hC hv => intro y e; simp [toV] at e
  | sl b o n c => intro y e; simp [toV] at e
  | own v xs h => intro y e; simp only [toV, Option.some.injEq] at e; subst e; exact h
  | agg vs ds h hv ih =>
    intro y e
    simp only [toV, Option.map_eq_some_iff] at e
    obtain ⟨xs, h1, rfl⟩ := e
    obtain ⟨h2, h3⟩ := toVs_get ds xs h1
    exact .agg vs xs (h.trans h2) (fun k hk => ih k (by omega) _ (h3 k (by omega) hk))
  | tup vs ds h hv ih => intro y e; simp [toV] at e
  | func f vs ds h hv ih => intro y e; simp [toV] at e
  | iface t v d h ih =>
    intro y e
    simp only [toV, Option.map_eq_some_iff] at e
    obtain ⟨x, h1, rfl⟩ := e
    exact .iface t v x (ih x h1)
  | map r => intro y e; simp [toV] at e
  | junk v => intro y e; simp [toV] at e

theorem Weak.toV {d : D} {x : V} (h : toV d = some x) : Weak d (.val x) := fun _ v r => .val v x (toV_rep r x h)

/-- The other way: a struct of pure data as a struct of cells. -/
theorem Weak.agg (xs : List V) : Weak (.val (.agg xs)) (.agg (xs.map .val)) := by
  intro C v r
  cases r with
  | val _ _ h =>
    cases h with
    | agg vs _ hs hv =>
      refine .agg vs _ (by simpa using hs) (fun k hk => ?_)
      simp only [List.length_map] at hk
      simp only [List.getElem_map]
      exact .val _ _ (hv k hk)

/-- A pointer to immutable memory as a place in it. -/
theorem Weak.ref (x : V) : Weak (.val (.ref x)) (.rp x.cells) := by
  intro C v r
  cases r with
  | val _ _ h => cases h with | ref b o x vs hC hv => exact .rp b o x.cells vs hC hv

inductive Weaks : List D → List D → Prop
  | nil : Weaks [] []
  | cons {d d' : D} {ds ds' : List D} : Weak d d' → Weaks ds ds' → Weaks (d :: ds) (d' :: ds')

theorem Weaks.refl : ∀ ds : List D, Weaks ds ds
  | [] => .nil
  | d :: ds => .cons (Weak.refl d) (Weaks.refl ds)

theorem Weaks.get {ds ds' : List D} (h : Weaks ds ds') : ds.length = ds'.length ∧ ∀ k (hk : k < ds.length) (hk' : k < ds'.length), Weak ds[k] ds'[k] := by
  induction h with
  | nil => exact ⟨rfl, fun k hk => absurd hk (by simp)⟩
  | cons h _ ih =>
    refine ⟨by simp [ih.1], fun k hk hk' => ?_⟩
    cases k with
    | zero => exact h
    | succ k => exact ih.2 k _ _

/-- Less is known of the slots. -/
inductive WkL (s : Slots) : SlotL → Prop
  | nil : WkL s .nil
  | cons {t : Nat} {d : D} {l : SlotL} (h : Weak (s.get t) d) (hl : WkL s l) : WkL s (.cons t d l)

theorem WkL.get {s : Slots} {l : SlotL} (h : WkL s l) (k : Nat) : Weak (s.get k) (orJunk (look l k)) := by
  induction h with
  | nil => exact Weak.junk _
  | cons h _ ih =>
    rw [look_cons]
    split
    · rename_i e; subst e; exact h
    · exact ih

structure SWk (s s' : Slots) : Prop where
  n : s.n = s'.n
  l : WkL s s'.l

/-- What the rules speak of: each value reads as its datum. -/
def RepDs (C : Imm) (vs : Array Value) (ds : List D) : Prop := vs.size = ds.length ∧ ∀ k (hk : k < ds.length), RepD C (vs.getD k undef) ds[k]

theorem RepDs.weak {C : Imm} {vs : Array Value} {ds ds' : List D} (h : RepDs C vs ds) (hw : Weaks ds ds') : RepDs C vs ds' :=
  ⟨h.1.trans hw.get.1, fun k hk => hw.get.2 k (by rw [hw.get.1]; exact hk) hk _ _ (h.2 k (by rw [hw.get.1]; exact hk))⟩

/-! ### The triple -/

abbrev Post := Exit → Slots → Defs → List Chunk → Prop

def Lift (G : Gh) (Q : Post) : Exit → Act → World → Prop := fun e a w => ∃ G' s δ σ, G.le G' ∧ Inv G' σ w ∧ RelA G' s δ a ∧ Q e s δ σ

theorem Lift.mono {G G' : Gh} (h : G.le G') {Q : Post} {e : Exit} {a : Act} {w : World} (l : Lift G' Q e a w) : Lift G Q e a w := by
  obtain ⟨H, s, δ, σ, h1, h2⟩ := l
  exact ⟨H, s, δ, σ, h.trans h1, h2⟩

/-- Code, begun with these slots, deferred calls and owned blocks, ends as Q says. -/
def SW (P : Program) (c : Code) (Q : Post) (s : Slots) (δ : Defs) (σ : List Chunk) : Prop :=
  ∀ G a w, Inv G σ w → RelA G s δ a → c.wp P (Lift G Q) a w

def thenQ (K : Slots → Defs → List Chunk → Prop) (Q : Post) : Post
  | .normal, s, δ, σ => K s δ σ
  | e, s, δ, σ => Q e s δ σ

section rules
variable {P : Program} {Q : Post} {s : Slots} {δ : Defs} {σ : List Chunk}

theorem sw_mono {c : Code} {Q' : Post} (h : SW P c Q s δ σ) (hq : ∀ e s δ σ, Q e s δ σ → Q' e s δ σ) : SW P c Q' s δ σ := fun G a w hi hr =>
  wp_mono (h G a w hi hr) fun e a w ⟨G', s', δ', σ', h1, h2, h3, h4⟩ => ⟨G', s', δ', σ', h1, h2, h3, hq _ _ _ _ h4⟩

theorem sw_seq {x y : Code} (h : SW P x (thenQ (SW P y Q) Q) s δ σ) : SW P (.seq x y) Q s δ σ := fun G a w hi hr => by
  refine wp_seq (wp_mono (h G a w hi hr) fun e a' w' ⟨G', s', δ', σ', h1, h2, h3, h4⟩ => ?_)
  cases e with
  | normal => exact wp_mono (h4 G' a' w' h2 h3) fun e a w l => l.mono h1
  | exit id => exact ⟨G', s', δ', σ', h1, h2, h3, h4⟩
  | goto l => exact ⟨G', s', δ', σ', h1, h2, h3, h4⟩
  | ret => exact ⟨G', s', δ', σ', h1, h2, h3, h4⟩
  | panic ch => exact ⟨G', s', δ', σ', h1, h2, h3, h4⟩
  | outgrown => exact ⟨G', s', δ', σ', h1, h2, h3, h4⟩

theorem sw_skip (h : Q .normal s δ σ) : SW P .skip Q s δ σ := fun G a w hi hr => wp_skip ⟨G, s, δ, σ, G.le_refl, hi, hr, h⟩
theorem sw_exit {id : Nat} (h : Q (.exit id) s δ σ) : SW P (.exit id) Q s δ σ := fun G a w hi hr => wp_exit ⟨G, s, δ, σ, G.le_refl, hi, hr, h⟩
theorem sw_ret (h : Q .ret s δ σ) : SW P .ret Q s δ σ := fun G a w hi hr => wp_ret ⟨G, s, δ, σ, G.le_refl, hi, hr, h⟩

theorem evalO_bool {G : Gh} {a : Act} (r : RelA G s δ a) {x : Operand} {b : Bool} (h : evalO s x = .val (.bool b)) : a.eval x = .bool b := by
  have := r.eval x
  rw [h] at this
  generalize a.eval x = v at this
  cases this with
  | val _ _ h => cases h; rfl

theorem sw_cond {c : Operand} {x y : Code} {b : Bool} (hc : evalO s c = .val (.bool b)) (ht : b = true → SW P x Q s δ σ) (hf : b = false → SW P y Q s δ σ) :
    SW P (.cond c x y) Q s δ σ := fun G a w hi hr =>
  wp_cond_split (evalO_bool hr hc) (fun h => ht h G a w hi hr) (fun h => hf h G a w hi hr)

def inBlockQ (id : Nat) (Q : Post) : Post
  | .exit id', s, δ, σ => if id' = id then Q .normal s δ σ else Q (.exit id') s δ σ
  | e, s, δ, σ => Q e s δ σ

theorem sw_block {id : Nat} {c : Code} (h : SW P c (inBlockQ id Q) s δ σ) : SW P (.block id c) Q s δ σ := fun G a w hi hr => by
  refine wp_block (wp_mono (h G a w hi hr) fun e a' w' ⟨G', s', δ', σ', h1, h2, h3, h4⟩ => ?_)
  cases e with
  | exit id' =>
    simp only [Exit.inBlock, inBlockQ] at h4 ⊢
    split <;> rename_i hid
    · rw [if_pos hid] at h4; exact ⟨G', s', δ', σ', h1, h2, h3, h4⟩
    · rw [if_neg hid] at h4; exact ⟨G', s', δ', σ', h1, h2, h3, h4⟩
  | normal => exact ⟨G', s', δ', σ', h1, h2, h3, h4⟩
  | goto l => exact ⟨G', s', δ', σ', h1, h2, h3, h4⟩
  | ret => exact ⟨G', s', δ', σ', h1, h2, h3, h4⟩
  | panic ch => exact ⟨G', s', δ', σ', h1, h2, h3, h4⟩
  | outgrown => exact ⟨G', s', δ', σ', h1, h2, h3, h4⟩

theorem wp_loop_rel {c : Code} {Q : Exit → Act → World → Prop} {a : Act} {w : World} (I : Nat → Act → World → Prop) (n : Nat) (h₀ : I n a w)
    (round : ∀ n a w, I n a w → c.wp P (Exit.then (fun a' w' => ∃ m, m < n ∧ I m a' w') Q) a w) : (Code.loop c).wp P Q a w := by
  intro b k cs
  have key : ∀ n a w, I n a w →
      ∃ e a' w', Q e a' w' ∧ Arrives P (lone (b.at a (.code c :: .inLoop c :: k)) cs w) b k cs e a' w' := by
    intro n
    induction n using Nat.strongRecOn with
    | _ n ih =>
      intro a w hI
      obtain ⟨e, a₁, w₁, hq, harr⟩ := round n a w hI b (.inLoop c :: k) cs
      cases e with
      | normal =>
        obtain ⟨m, hlt, hI₁⟩ := hq
        obtain ⟨e₂, a₂, w₂, hq₂, harr₂⟩ := ih m hlt a₁ w₁ hI₁
        exact ⟨e₂, a₂, w₂, hq₂, .of_steps (Steps.trans harr (.one step_inLoop)) harr₂⟩
      | exit id => exact ⟨_, a₁, w₁, hq, .pass (x := .inLoop c) rfl (fun _ _ => .inl (by simp)) harr⟩
      | goto l => exact ⟨_, a₁, w₁, hq, .pass (x := .inLoop c) rfl (fun _ _ => .inl (by simp)) harr⟩
      | ret => exact ⟨_, a₁, w₁, hq, .pass (x := .inLoop c) rfl (fun _ _ => .inl (by simp)) harr⟩
      | panic ch => exact ⟨_, a₁, w₁, hq, .pass (x := .inLoop c) rfl (fun _ _ => .inl (by simp)) harr⟩
      | outgrown => exact ⟨_, a₁, w₁, hq, .pass (x := .inLoop c) rfl (fun _ _ => .inl (by simp)) harr⟩
  obtain ⟨e, a', w', hq, harr⟩ := key _ a w h₀
  exact ⟨e, a', w', hq, .of_steps (.one step_loop) harr⟩

/-- A loop: what holds of the state at every round's head, with a number that each round lowers. -/
theorem sw_loop {c : Code} (I : Nat → Slots → Defs → List Chunk → Prop) (n : Nat) (h₀ : I n s δ σ)
    (round : ∀ n s δ σ, I n s δ σ → SW P c (thenQ (fun s' δ' σ' => ∃ m, m < n ∧ I m s' δ' σ') Q) s δ σ) : SW P (.loop c) Q s δ σ := fun G a w hi hr => by
  refine wp_loop_rel (fun n a w => ∃ G' s δ σ, G.le G' ∧ Inv G' σ w ∧ RelA G' s δ a ∧ I n s δ σ) n ⟨G, s, δ, σ, G.le_refl, hi, hr, h₀⟩ ?_
  rintro n a w ⟨G', s, δ, σ, hle, hi, hr, hI⟩
  refine wp_mono (round n s δ σ hI G' a w hi hr) fun e a' w' ⟨G'', s', δ', σ', h1, h2, h3, h4⟩ => ?_
  cases e with
  | normal => obtain ⟨m, hm, hI'⟩ := h4; exact ⟨m, hm, G'', s', δ', σ', hle.trans h1, h2, h3, hI'⟩
  | exit id => exact ⟨G'', s', δ', σ', hle.trans h1, h2, h3, h4⟩
  | goto l => exact ⟨G'', s', δ', σ', hle.trans h1, h2, h3, h4⟩
  | ret => exact ⟨G'', s', δ', σ', hle.trans h1, h2, h3, h4⟩
  | panic ch => exact ⟨G'', s', δ', σ', hle.trans h1, h2, h3, h4⟩
  | outgrown => exact ⟨G'', s', δ', σ', hle.trans h1, h2, h3, h4⟩

/-! ### Weakening the state -/

theorem RelA.weak {G : Gh} {s s' : Slots} {δ : Defs} {a : Act} (r : RelA G s δ a) (h : SWk s s') : RelA G s' δ a :=
  ⟨r.size.trans h.n, fun k hk => h.l.get k _ _ (r.slot k (by rw [h.n]; exact hk)), r.defs, r.defd⟩

theorem sw_weak {c : Code} {s' : Slots} (hw : SWk s s') (h : SW P c Q s' δ σ) : SW P c Q s δ σ := fun G a w hi hr => h G a w hi (hr.weak hw)
theorem sw_perm {c : Code} {σ' : List Chunk} (hp : σ.Perm σ') (h : SW P c Q s δ σ') : SW P c Q s δ σ := fun G a w hi hr => h G a w (hi.perm hp) hr
theorem sw_sub {c : Code} {σ' : List Chunk} (hp : σ'.Sublist σ) (h : SW P c Q s δ σ') : SW P c Q s δ σ := fun G a w hi hr => h G a w (hi.sub hp) hr

end rules

/-! ### Calls -/

/-- A call of function f with arguments that read as ds, these blocks owned: it returns what R tells, or panics as Rp tells. -/
def FSpecP (P : Program) (f : FuncId) (ds : List D) (σ : List Chunk) (R : D → List Chunk → Prop) (Rp : List PanicEntry → List Chunk → Prop) : Prop :=
  ∀ G vs w, Inv G σ w → RepDs G.C vs ds → Calls P f vs w fun
    | .returned v, w' => ∃ G' d σ', G.le G' ∧ Inv G' σ' w' ∧ RepD G'.C v d ∧ R d σ'
    | .panicked ch, w' => ∃ G' σ', G.le G' ∧ Inv G' σ' w' ∧ Rp ch σ'
    | .outgrown, _ => False

def FSpec (P : Program) (f : FuncId) (ds : List D) (σ : List Chunk) (R : D → List Chunk → Prop) : Prop := FSpecP P f ds σ R fun _ _ => False

theorem FSpecP.mono {P : Program} {f : FuncId} {ds : List D} {σ : List Chunk} {R R' : D → List Chunk → Prop} {Rp Rp' : List PanicEntry → List Chunk → Prop}
    (h : FSpecP P f ds σ R Rp) (hR : ∀ d σ, R d σ → R' d σ) (hp : ∀ c σ, Rp c σ → Rp' c σ) : FSpecP P f ds σ R' Rp' := fun G vs w hi hr =>
  (h G vs w hi hr).mono fun e w' he => by
    cases e with
    | returned v => obtain ⟨G', d, σ', h1, h2, h3, h4⟩ := he; exact ⟨G', d, σ', h1, h2, h3, hR _ _ h4⟩
    | panicked ch => obtain ⟨G', σ', h1, h2, h3⟩ := he; exact ⟨G', σ', h1, h2, hp _ _ h3⟩
    | outgrown => exact he

theorem FSpec.mono {P : Program} {f : FuncId} {ds : List D} {σ : List Chunk} {R R' : D → List Chunk → Prop}
    (h : FSpec P f ds σ R) (hR : ∀ d σ, R d σ → R' d σ) : FSpec P f ds σ R' := FSpecP.mono h hR fun _ _ h => h

theorem FSpecP.perm {P : Program} {f : FuncId} {ds : List D} {σ σ' : List Chunk} {R : D → List Chunk → Prop} {Rp : List PanicEntry → List Chunk → Prop}
    (hp : σ.Perm σ') (h : FSpecP P f ds σ' R Rp) : FSpecP P f ds σ R Rp := fun G vs w hi hr => h G vs w (hi.perm hp) hr

/-- The results of a function whose results are slots, or cells whose blocks are owned. -/
def ResD (P : Program) (fn : Func) (s : Slots) (σ : List Chunk) (d : D) : Prop :=
  ∀ G a w, Inv G σ w → (∃ δ, RelA G s δ a) → ∃ v, (results fn a.tmps).run P w = .ok v w ∧ RepD G.C v d

/-- What is owned, in another order, and less of it. -/
def Sub (σ' σ : List Chunk) : Prop := ∃ τ, σ.Perm τ ∧ σ'.Sublist τ

theorem Inv.less {G : Gh} {σ σ' : List Chunk} {w : World} (h : Inv G σ w) (p : Sub σ' σ) : Inv G σ' w := by
  obtain ⟨τ, h1, h2⟩ := p
  exact (h.perm h1).sub h2

theorem Sub.refl (σ : List Chunk) : Sub σ σ := ⟨σ, .refl _, .refl _⟩
theorem Sub.none (σ : List Chunk) : Sub [] σ := ⟨σ, .refl _, List.nil_sublist _⟩
theorem Sub.drop {c : Chunk} {σ σ' : List Chunk} (h : Sub σ' σ) : Sub σ' (c :: σ) := by
  obtain ⟨τ, h1, h2⟩ := h
  exact ⟨c :: τ, h1.cons c, h2.cons c⟩
theorem Sub.p0 {c : Chunk} {σ σ' : List Chunk} (h : Sub σ' σ) : Sub (c :: σ') (c :: σ) := by
  obtain ⟨τ, h1, h2⟩ := h
  exact ⟨c :: τ, h1.cons c, h2.cons_cons c⟩
theorem Sub.of_perm {σ σ' τ : List Chunk} (p : σ.Perm τ) (h : Sub σ' τ) : Sub σ' σ := by
  obtain ⟨τ', h1, h2⟩ := h
  exact ⟨τ', p.trans h1, h2⟩
theorem Sub.p1 {c x : Chunk} {σ σ' : List Chunk} (h : Sub σ' (x :: σ)) : Sub (c :: σ') (x :: c :: σ) := .of_perm (.swap _ _ _) h.p0
theorem Sub.p2 {c x y : Chunk} {σ σ' : List Chunk} (h : Sub σ' (x :: y :: σ)) : Sub (c :: σ') (x :: y :: c :: σ) := .of_perm ((List.Perm.swap _ _ _).cons _) h.p1
theorem Sub.p3 {c x y z : Chunk} {σ σ' : List Chunk} (h : Sub σ' (x :: y :: z :: σ)) : Sub (c :: σ') (x :: y :: z :: c :: σ) := .of_perm (((List.Perm.swap _ _ _).cons _).cons _) h.p2
theorem Sub.p4 {c x y z u : Chunk} {σ σ' : List Chunk} (h : Sub σ' (x :: y :: z :: u :: σ)) : Sub (c :: σ') (x :: y :: z :: u :: c :: σ) := .of_perm ((((List.Perm.swap _ _ _).cons _).cons _).cons _) h.p3
theorem Sub.p5 {c x y z u v : Chunk} {σ σ' : List Chunk} (h : Sub σ' (x :: y :: z :: u :: v :: σ)) : Sub (c :: σ') (x :: y :: z :: u :: v :: c :: σ) := .of_perm (((((List.Perm.swap _ _ _).cons _).cons _).cons _).cons _) h.p4
theorem Sub.p6 {c x y z u v w : Chunk} {σ σ' : List Chunk} (h : Sub σ' (x :: y :: z :: u :: v :: w :: σ)) : Sub (c :: σ') (x :: y :: z :: u :: v :: w :: c :: σ) := .of_perm ((((((List.Perm.swap _ _ _).cons _).cons _).cons _).cons _).cons _) h.p5

def bodyQ (P : Program) (fn : Func) (R : D → List Chunk → Prop) (Rp : List PanicEntry → List Chunk → Prop) : Post
  | .normal, s, δ, σ | .ret, s, δ, σ => δ = [] ∧ ∃ d σ', ResD P fn s σ d ∧ Sub σ' σ ∧ R d σ'
  | .panic ch, _, δ, σ => δ = [] ∧ ∃ σ', Sub σ' σ ∧ Rp ch σ'
  | _, _, _, _ => False

theorem defs_nil {G : Gh} {s : Slots} {a : Act} (r : RelA G s [] a) : a.defers = [] := List.eq_nil_of_length_eq_zero (by simpa using r.defs)

noncomputable def argS : List D → Nat → SlotL := List.rec (fun _ => .nil) fun d _ ih i => .cons i d (ih (i + 1))

theorem look_argS : ∀ (ds : List D) (i k : Nat), look (argS ds i) k = if i ≤ k then ds[k - i]? else none
  | [], i, k => by simp [argS, look]
  | d :: ds, i, k => by
    show look (.cons i d (argS ds (i + 1))) k = _
    rw [look_cons, look_argS ds (i + 1) k]
    by_cases h : i = k
    · subst h; simp
    · rw [if_neg h]
      by_cases h1 : i ≤ k
      · rw [if_pos h1, if_pos (by omega), show k - i = (k - (i + 1)) + 1 by omega, List.getElem?_cons_succ]
      · rw [if_neg h1, if_neg (by omega)]

/-- A contract out of the body's triple. -/
theorem spec_of_sw {P : Program} {f : FuncId} {fn : Func} {c : Code} {ds : List D} {σ : List Chunk} {R : D → List Chunk → Prop} {Rp : List PanicEntry → List Chunk → Prop}
    (hf : P.funcs[f]? = some fn) (hb : fn.body = some c)
    (h : SW P c (bodyQ P fn R Rp) ⟨ds.length + (fn.ntmps - ds.length), argS ds 0⟩ [] σ) : FSpecP P f ds σ R Rp := fun G vs w hi hr => by
  refine calls_of_wp hf hb ?_
  have hrel : RelA G ⟨ds.length + (fn.ntmps - ds.length), argS ds 0⟩ [] { tmps := vs ++ Array.replicate (fn.ntmps - vs.size) undef, defers := [] } := by
    refine ⟨by simp [hr.1], fun k hk => ?_, rfl, fun k hk => absurd hk (by simp)⟩
    show RepD G.C _ (orJunk (look (argS ds 0) k))
    rw [look_argS, if_pos (Nat.zero_le _), Nat.sub_zero]
    by_cases h1 : k < ds.length
    · rw [List.getElem?_eq_getElem h1]
      have := hr.2 k h1
      have h2 : k < vs.size := by rw [hr.1]; exact h1
      simp only [Array.getD_eq_getD_getElem?, Array.getElem?_append_left h2]
      show RepD G.C _ ds[k]
      simpa only [Array.getD_eq_getD_getElem?] using this
    · rw [List.getElem?_eq_none (Nat.le_of_not_lt h1)]; exact .junk _
  refine wp_mono (h G _ w hi hrel) fun e a' w' ⟨G', s', δ', σ', h1, h2, h3, h4⟩ => ?_
  cases e with
  | normal =>
    obtain ⟨rfl, d, σ'', hd, hsub, hR⟩ := h4
    obtain ⟨v, hv, hrep⟩ := hd G' a' w' h2 ⟨_, h3⟩
    exact ⟨defs_nil h3, v, hv, G', d, σ'', h1, h2.less hsub, hrep, hR⟩
  | ret =>
    obtain ⟨rfl, d, σ'', hd, hsub, hR⟩ := h4
    obtain ⟨v, hv, hrep⟩ := hd G' a' w' h2 ⟨_, h3⟩
    exact ⟨defs_nil h3, v, hv, G', d, σ'', h1, h2.less hsub, hrep, hR⟩
  | panic ch => obtain ⟨rfl, σ'', hsub, hR⟩ := h4; exact ⟨defs_nil h3, G', σ'', h1, h2.less hsub, hR⟩
  | exit id => exact h4.elim
  | goto l => exact h4.elim
  | outgrown => exact h4.elim

theorem sw_less {P : Program} {Q : Post} {s : Slots} {δ : Defs} {σ σ' : List Chunk} {c : Code} (hp : Sub σ' σ) (h : SW P c Q s δ σ') : SW P c Q s δ σ := fun G a w hi hr => h G a w (hi.less hp) hr

theorem ResD.weak {P : Program} {fn : Func} {s : Slots} {σ : List Chunk} {d d' : D} (h : ResD P fn s σ d) (hw : Weak d d') : ResD P fn s σ d' := fun G a w hi hr => by
  obtain ⟨v, h1, h2⟩ := h G a w hi hr
  exact ⟨v, h1, hw _ _ h2⟩

theorem res_none {P : Program} {fn : Func} {s : Slots} {σ : List Chunk} (h : fn.results = #[]) : ResD P fn s σ (.tup []) := fun G a w _ _ =>
  ⟨_, results_none h a.tmps P w, .tup #[] [] rfl (fun k hk => absurd hk (by simp))⟩

theorem res_one {P : Program} {fn : Func} {s : Slots} {σ : List Chunk} {t : Tmp} {d : D} (h : fn.results = #[.tmp t]) (hd : evalO s (.tmp t) = d) : ResD P fn s σ d := fun G a w _ ⟨_, r⟩ =>
  ⟨_, results_tmp h a.tmps P w, by rw [← hd]; exact r.eval (.tmp t)⟩

theorem results_tmps {fn : Func} {ts : List Tmp} (h : fn.results.toList = ts.map .tmp) (hn : ts.length ≠ 1) (tmps : Array Value) (P : Program) (w : World) :
    (results fn tmps).run P w = .ok (.tuple (ts.map fun t => tmps.getD t undef).toArray) w := by
  have hr : fn.results = (ts.map ResultVar.tmp).toArray := by rw [← h]
  have key : ∀ (f : ResultVar → Sem Value), (∀ t, f (.tmp t) = pure (tmps.getD t undef)) → ∀ (l : List Tmp), (l.map ResultVar.tmp).mapM f =
      (pure (l.map fun t => tmps.getD t undef) : Sem (List Value)) := by
    intro f hf l
    induction l with
    | nil => rfl
    | cons t l ih => simp only [List.map_cons, List.mapM_cons, ih, hf, pure_bind]
  unfold results
  rw [hr, List.mapM_toArray, key _ (fun t => rfl), map_pure, pure_bind]
  have : ¬ ((ts.map fun t => tmps.getD t undef).toArray.size = 1) := by simpa using hn
  rw [dif_neg this]; rfl

theorem res_many {P : Program} {fn : Func} {s : Slots} {σ : List Chunk} {ts : List Tmp} {ds : List D} (h : fn.results.toList = ts.map .tmp) (hn : ts.length ≠ 1)
    (hd : ts.map (fun t => evalO s (.tmp t)) = ds) : ResD P fn s σ (.tup ds) := fun G a w _ ⟨_, r⟩ => by
  refine ⟨_, results_tmps h hn a.tmps P w, ?_⟩
  subst hd
  refine .tup _ _ (by simp) (fun k hk => ?_)
  simp only [List.length_map] at hk
  have h1 : (ts.map fun t => a.tmps.getD t undef).toArray.getD k undef = a.tmps.getD ts[k] undef := by
    simp [hk]
  rw [h1, List.getElem_map]
  exact r.eval (.tmp ts[k])

end Go.Proofs.Ytioechdfghglhaa.SL
