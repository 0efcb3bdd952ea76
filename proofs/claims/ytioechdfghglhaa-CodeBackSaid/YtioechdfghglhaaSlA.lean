/- A small program logic for this seat: values of pure data, handles on owned blocks, an immutable part of the heap, and what a call does to them. -/
import Derived.OrdersHeld
import Derived.Defers
import Derived.Recover
import Derived.Below
import Derived.Tactics
import Derived.WalkKit
namespace Go.Proofs.Ytioechdfghglhaa.SL
set_option linter.unusedVariables false
set_option linter.unusedSimpArgs false
open Go Go.RowKit

/-- Pure data: what immutable memory reads as. A struct is the flat list of its cells. -/
inductive V where
  | bool (b : Bool)
  | int (k : IntKind) (n : Int)
  | str (s : List UInt8)
  | list (xs : List V)
  | ref (x : V)
  | nil
  | agg (xs : List V)
  | iface (t : TypeId) (x : V)
  | nilIface
  | nilFunc

/-- What a slot or an owned cell may hold. -/
inductive D where
  | val (x : V)
  | fix (xs : List V)
  | ptr (b o : Nat)
  | rp (xs : List V)
  | sl (b o n c : Nat)
  | own (v : Value) (xs : List V)
  | agg (ds : List D)
  | tup (ds : List D)
  | func (f : FuncId) (ds : List D)
  | iface (t : TypeId) (d : D)
  | map (r : Nat)
  | junk

def V.cells : V → List V
  | .agg xs => xs
  | x => [x]

def D.cells : D → List D
  | .agg ds => ds
  | .val (.agg xs) => xs.map D.val
  | d => [d]

abbrev Imm := Nat → Nat → Option Value

def Imm.le (C C' : Imm) : Prop := ∀ b o v, C b o = some v → C' b o = some v

theorem Imm.le_refl (C : Imm) : C.le C := fun _ _ _ h => h
theorem Imm.le.trans {C C' C'' : Imm} (h : C.le C') (h' : C'.le C'') : C.le C'' := fun b o v e => h' b o v (h b o v e)

inductive RepV (C : Imm) : Value → V → Prop
  | bool (b : Bool) : RepV C (.bool b) (.bool b)
  | int (k : IntKind) (n : Int) : RepV C (.int k n) (.int k n)
  | str (s : ByteArray) : RepV C (.string s) (.str s.data.toList)
  | empty (a : Option Addr) (c : Nat) : RepV C (.slice a 0 c) (.list [])
  | list (b o c sz : Nat) (xs : List V) (vs : Nat → Nat → Value) (hc : xs.length ≤ c)
      (hsz : ∀ i (h : i < xs.length), (xs[i]).cells.length = sz)
      (hC : ∀ i k, i < xs.length → k < sz → C b (o + i * sz + k) = some (vs i k))
      (hv : ∀ i k (hi : i < xs.length) (hk : k < (xs[i]).cells.length), RepV C (vs i k) ((xs[i]).cells[k])) :
      RepV C (.slice (some ⟨b, o, none⟩) xs.length c) (.list xs)
  | ref (b o : Nat) (x : V) (vs : Nat → Value) (hC : ∀ k, k < x.cells.length → C b (o + k) = some (vs k))
      (hv : ∀ k (hk : k < x.cells.length), RepV C (vs k) (x.cells[k])) : RepV C (.pointer (some ⟨b, o, none⟩)) (.ref x)
  | nil : RepV C (.pointer none) .nil
  | agg (vs : Array Value) (xs : List V) (h : vs.size = xs.length) (hv : ∀ k (hk : k < xs.length), RepV C (vs.getD k undef) (xs[k])) :
      RepV C (.agg vs) (.agg xs)
  | iface (t : TypeId) (v : Value) (x : V) (h : RepV C v x) : RepV C (.iface t v) (.iface t x)
  | nilIface : RepV C .nilIface .nilIface
  | nilFunc : RepV C .nilFunc .nilFunc

inductive RepD (C : Imm) : Value → D → Prop
  | val (v : Value) (x : V) (h : RepV C v x) : RepD C v (.val x)
  | fix (a : Option Addr) (xs : List V) (h : RepV C (.slice a xs.length xs.length) (.list xs)) : RepD C (.slice a xs.length xs.length) (.fix xs)
  | ptr (b o : Nat) : RepD C (.pointer (some ⟨b, o, none⟩)) (.ptr b o)
  | rp (b o : Nat) (xs : List V) (vs : Nat → Value) (hC : ∀ k, k < xs.length → C b (o + k) = some (vs k))
      (hv : ∀ k (hk : k < xs.length), RepV C (vs k) xs[k]) : RepD C (.pointer (some ⟨b, o, none⟩)) (.rp xs)
  | sl (b o n c : Nat) : RepD C (.slice (some ⟨b, o, none⟩) n c) (.sl b o n c)
  | own (v : Value) (xs : List V) (h : RepV C v (.list xs)) : RepD C v (.own v xs)
  | agg (vs : Array Value) (ds : List D) (h : vs.size = ds.length) (hv : ∀ k (hk : k < ds.length), RepD C (vs.getD k undef) (ds[k])) :
      RepD C (.agg vs) (.agg ds)
  | tup (vs : Array Value) (ds : List D) (h : vs.size = ds.length) (hv : ∀ k (hk : k < ds.length), RepD C (vs.getD k undef) (ds[k])) :
      RepD C (.tuple vs) (.tup ds)
  | func (f : FuncId) (vs : Array Value) (ds : List D) (h : vs.size = ds.length) (hv : ∀ k (hk : k < ds.length), RepD C (vs.getD k undef) (ds[k])) :
      RepD C (.func (.func f) #[] vs) (.func f ds)
  | iface (t : TypeId) (v : Value) (d : D) (h : RepD C v d) : RepD C (.iface t v) (.iface t d)
  | map (r : Nat) : RepD C (.map (some r)) (.map r)
  | junk (v : Value) : RepD C v .junk

theorem RepV.mono {C C' : Imm} (h : C.le C') {v : Value} {x : V} (r : RepV C v x) : RepV C' v x := by
  induction r with
  | bool b => exact .bool b
  | int k n => exact .int k n
  | str s => exact .str s
  | empty a c => exact .empty a c
  | list b o c sz xs vs hc hsz hC hv ih => exact .list b o c sz xs vs hc hsz (fun i k hi hk => h _ _ _ (hC i k hi hk)) (fun i k hi hk => ih i k hi hk)
  | ref b o x vs hC hv ih => exact .ref b o x vs (fun k hk => h _ _ _ (hC k hk)) ih
  | nil => exact .nil
  | agg vs xs h' hv ih => exact .agg vs xs h' ih
  | iface t v x _ ih => exact .iface t v x ih
  | nilIface => exact .nilIface
  | nilFunc => exact .nilFunc

theorem RepD.mono {C C' : Imm} (h : C.le C') {v : Value} {d : D} (r : RepD C v d) : RepD C' v d := by
  induction r with
  | val v x hx => exact .val v x (hx.mono h)
  | fix a xs hx => exact .fix a xs (hx.mono h)
  | ptr b o => exact .ptr b o
  | rp b o xs vs hC hv => exact .rp b o xs vs (fun k hk => h _ _ _ (hC k hk)) (fun k hk => (hv k hk).mono h)
  | sl b o n c => exact .sl b o n c
  | own v xs hx => exact .own v xs (hx.mono h)
  | agg vs ds h' hv ih => exact .agg vs ds h' ih
  | tup vs ds h' hv ih => exact .tup vs ds h' ih
  | func f vs ds h' hv ih => exact .func f vs ds h' ih
  | iface t v d _ ih => exact .iface t v d ih
  | map r => exact .map r
  | junk v => exact .junk v

/-- What is owned: a block, all of its cells; or the room behind a slice (nobody else may write there). -/
inductive Chunk where
  | blk (b : Nat) (ds : List D)
  | spare (v : Value) (sz : Nat)

/-- The block that is owned, in whole or in part. -/
def Chunk.b? : Chunk → Option Nat
  | .blk b _ => some b
  | .spare (.slice (some a) n c) _ => if n = c then none else some a.block
  | .spare _ _ => none

/-- The cells that nobody else may hold for immutable. -/
def Chunk.owns : Chunk → Nat → Nat → Prop
  | .blk b _, b', _ => b' = b
  | .spare (.slice (some a) n c) sz, b', o => n ≠ c ∧ b' = a.block ∧ a.off + n * sz ≤ o
  | .spare _ _, _, _ => False

def Chunk.holds (C : Imm) (w : World) : Chunk → Prop
  | .blk b ds => ∃ cs ty fz, w.heap[b]? = some (.cells cs ty fz) ∧ (∀ o, o < cs.size → ¬ (fz.1 ≤ o ∧ o < fz.2)) ∧ cs.size = ds.length ∧
      ∀ k (hk : k < ds.length), RepD C (cs.getD k undef) (ds[k])
  | .spare v sz => ∃ a n c, v = .slice a n c ∧ (n = c ∨ ∃ b f cs ty fz, a = some ⟨b, f, none⟩ ∧ n < c ∧ w.heap[b]? = some (.cells cs ty fz) ∧
      (∀ o, o < cs.size → ¬ (fz.1 ≤ o ∧ o < fz.2)) ∧ f + c * sz ≤ cs.size)

/-- The ghost state: the world in which the law was called, and the immutable heap. -/
structure Gh where
  W : World
  C : Imm

def Gh.le (G G' : Gh) : Prop := G'.W = G.W ∧ G.C.le G'.C

theorem Gh.le_refl (G : Gh) : G.le G := ⟨rfl, Imm.le_refl _⟩
theorem Gh.le.trans {G G' G'' : Gh} (h : G.le G') (h' : G'.le G'') : G.le G'' := ⟨h'.1.trans h.1, Imm.le.trans h.2 h'.2⟩

structure Inv (G : Gh) (σ : List Chunk) (w : World) : Prop where
  below : Below G.W.heap.size G.W w
  agree : ∀ b o v, G.C b o = some v → w.cell? ⟨b, o, none⟩ = some v
  holds : ∀ c ∈ σ, c.holds G.C w
  nodup : (σ.filterMap Chunk.b?).Nodup
  apart : ∀ c ∈ σ, ∀ b o, c.owns b o → G.C b o = none
  fresh : ∀ c ∈ σ, ∀ b, c.b? = some b → G.W.heap.size ≤ b

abbrev Defs := List (FuncId × List D)

inductive SlotL where
  | nil
  | cons (k : Nat) (d : D) (l : SlotL)

/-- The slots of a frame: how many, and what is known of some (the first entry counts; of the others nothing is known). -/
structure Slots where
  n : Nat
  l : SlotL

noncomputable def look (l : SlotL) (t : Nat) : Option D := SlotL.rec none (fun k d _ ih => cond (Nat.beq k t) (some d) ih) l

noncomputable def orJunk (x : Option D) : D := Option.rec .junk (fun d => d) x

noncomputable def Slots.get (s : Slots) (t : Nat) : D := orJunk (look s.l t)

theorem look_cons (k : Nat) (d : D) (l : SlotL) (t : Nat) : look (.cons k d l) t = if k = t then some d else look l t := by
  show cond (Nat.beq k t) _ _ = _
  by_cases h : k = t
  · subst h; simp
  · rw [if_neg h, show Nat.beq k t = false by cases e : Nat.beq k t with | false => rfl | true => exact absurd (Nat.eq_of_beq_eq_true e) h]; rfl

/-- The frame's slots, and its deferred calls. -/
structure RelA (G : Gh) (s : Slots) (δ : Defs) (a : Act) : Prop where
  size : a.tmps.size = s.n
  slot : ∀ k, k < s.n → RepD G.C (a.tmps.getD k undef) (s.get k)
  defs : a.defers.length = δ.length
  defd : ∀ k (hk : k < δ.length), ∃ cap args, a.defers[k]? = some { target := .fn (.func (δ[k]).1) cap, args := args } ∧
    (args ++ cap).size = (δ[k]).2.length ∧ ∀ j (hj : j < (δ[k]).2.length), RepD G.C ((args ++ cap).getD j undef) ((δ[k]).2[j])

theorem RelA.mono {G G' : Gh} (h : G.le G') {s : Slots} {δ : Defs} {a : Act} (r : RelA G s δ a) : RelA G' s δ a :=
  ⟨r.size, fun k hk => (r.slot k hk).mono h.2, r.defs, fun k hk => by
    obtain ⟨cap, args, h1, h2, h3⟩ := r.defd k hk
    exact ⟨cap, args, h1, h2, fun j hj => (h3 j hj).mono h.2⟩⟩

theorem Inv.perm {G : Gh} {σ σ' : List Chunk} {w : World} (h : Inv G σ w) (p : σ.Perm σ') : Inv G σ' w :=
  ⟨h.below, h.agree, fun c hc => h.holds c (p.mem_iff.mpr hc), (p.filterMap _).nodup_iff.mp h.nodup, fun c hc => h.apart c (p.mem_iff.mpr hc), fun c hc => h.fresh c (p.mem_iff.mpr hc)⟩

theorem Inv.sub {G : Gh} {σ σ' : List Chunk} {w : World} (h : Inv G σ w) (p : σ'.Sublist σ) : Inv G σ' w :=
  ⟨h.below, h.agree, fun c hc => h.holds c (p.subset hc), (p.filterMap _).nodup h.nodup, fun c hc => h.apart c (p.subset hc), fun c hc => h.fresh c (p.subset hc)⟩

theorem Inv.drop {G : Gh} {c : Chunk} {σ : List Chunk} {w : World} (h : Inv G (c :: σ) w) : Inv G σ w := h.sub (List.sublist_cons_self _ _)

theorem Inv.drew {G : Gh} {σ : List Chunk} {w : World} (h : Inv G σ w) : Inv G σ w.drew :=
  ⟨h.below.drew, h.agree, h.holds, h.nodup, h.apart, h.fresh⟩

theorem lt_of_heap {w : World} {b : Nat} {x : Obj} (h : w.heap[b]? = some x) : b < w.heap.size := by
  rcases Nat.lt_or_ge b w.heap.size with h' | h'
  · exact h'
  · rw [Array.getElem?_eq_none h'] at h; cases h

theorem Chunk.holds_lt {C : Imm} {w : World} {c : Chunk} (h : c.holds C w) {b : Nat} (hb : c.b? = some b) : b < w.heap.size := by
  cases c with
  | blk b' ds =>
    obtain ⟨cs, ty, fz, h, _⟩ := h
    simp only [Chunk.b?, Option.some.injEq] at hb; subst hb
    exact lt_of_heap h
  | spare v sz =>
    obtain ⟨a, n, c, rfl, h⟩ := h
    rcases h with rfl | ⟨b', f, cs, ty, fz, rfl, hlt, h, _⟩
    · cases a <;> simp [Chunk.b?] at hb
    · simp only [Chunk.b?] at hb
      rw [if_neg (by omega)] at hb
      simp only [Option.some.injEq] at hb; subst hb
      exact lt_of_heap h

theorem Chunk.owns_b {c : Chunk} {b o : Nat} (h : c.owns b o) : c.b? = some b := by
  cases c with
  | blk b' ds => simp only [Chunk.owns] at h; subst h; rfl
  | spare v sz =>
    unfold Chunk.owns at h
    split at h
    · rename_i h'; cases h'
    · rename_i a n c sz' h'
      cases h'
      obtain ⟨h1, rfl, _⟩ := h
      simp only [Chunk.b?, if_neg h1]
    · exact h.elim

/-- A chunk holds still where its block reads as it did and the immutable heap has grown. -/
theorem Chunk.holds_of_block {C C' : Imm} (hC : C.le C') {w w' : World} {c : Chunk} (hb : ∀ b, c.b? = some b → w'.heap[b]? = w.heap[b]?) (h : c.holds C w) : c.holds C' w' := by
  cases c with
  | blk b ds =>
    obtain ⟨cs, ty, fz, h, h1, h2, h3⟩ := h
    exact ⟨cs, ty, fz, ((hb b rfl).trans h), h1, h2, fun k hk => (h3 k hk).mono hC⟩
  | spare v sz =>
    obtain ⟨a, n, c, rfl, h⟩ := h
    refine ⟨a, n, c, rfl, ?_⟩
    rcases h with h | ⟨b', f, cs, ty, fz, rfl, hlt, h, h1, h2⟩
    · exact .inl h
    · refine .inr ⟨b', f, cs, ty, fz, rfl, hlt, (hb b' ?_).trans h, h1, h2⟩
      simp only [Chunk.b?]
      rw [if_neg (by omega)]

/-- Worlds that differ only beyond what was there. -/
theorem Inv.of_below {G : Gh} {σ : List Chunk} {w w' : World} (h : Inv G σ w) (hb : Below w.heap.size w w') : Inv G σ w' := by
  refine ⟨h.below.trans (hb.mono h.below.size), fun b o v hv => ?_, fun c hc => ?_, h.nodup, h.apart, h.fresh⟩
  · have := h.agree b o v hv
    rw [hb.cell (World.block_lt_of_cell? w ⟨b, o, none⟩ this)]; exact this
  · exact Chunk.holds_of_block (Imm.le_refl _) (fun b e => hb.block _ (Chunk.holds_lt (h.holds c hc) e)) (h.holds c hc)

theorem heap_new (w : World) (o : Obj) : (w.alloc o).heap[w.heap.size]? = some o := by
  show (w.heap.push o)[_]? = _
  simp

theorem Inv.nothing_new {G : Gh} {σ : List Chunk} {w : World} (h : Inv G σ w) (o : Nat) : G.C w.heap.size o = none := by
  cases e : G.C w.heap.size o with
  | none => rfl
  | some v => exact absurd (World.block_lt_of_cell? w ⟨w.heap.size, o, none⟩ (h.agree _ _ _ e)) (by simp)

/-- One more chunk, that lies apart. -/
theorem Inv.add {G : Gh} {c : Chunk} {σ : List Chunk} {w : World} (h : Inv G σ w) (hc : c.holds G.C w) (hb : ∀ b, c.b? = some b → ∀ x ∈ σ, x.b? ≠ some b)
    (ha : ∀ b o, c.owns b o → G.C b o = none) (hf : ∀ b, c.b? = some b → G.W.heap.size ≤ b) : Inv G (c :: σ) w := by
  refine ⟨h.below, h.agree, fun x hx => ?_, ?_, fun x hx => ?_, fun x hx => ?_⟩
  · rcases List.mem_cons.mp hx with rfl | hx
    · exact hc
    · exact h.holds x hx
  · cases e : c.b? with
    | none => rw [List.filterMap_cons_none e]; exact h.nodup
    | some b =>
      rw [List.filterMap_cons_some e]
      refine List.nodup_cons.mpr ⟨fun hm => ?_, h.nodup⟩
      obtain ⟨x, hx, ex⟩ := List.mem_filterMap.mp hm
      exact hb b e x hx ex
  · rcases List.mem_cons.mp hx with rfl | hx
    · exact ha
    · exact h.apart x hx
  · rcases List.mem_cons.mp hx with rfl | hx
    · exact hf
    · exact h.fresh x hx

/-- A new block, owned. -/
theorem Inv.alloc {G : Gh} {σ : List Chunk} {w : World} (h : Inv G σ w) {cs : Array Value} {ty : TypeId} {ds : List D} (hs : cs.size = ds.length)
    (hr : ∀ k (hk : k < ds.length), RepD G.C (cs.getD k undef) (ds[k])) : Inv G (.blk w.heap.size ds :: σ) (w.alloc (.cells cs ty)) := by
  have hb := h.of_below (Below.alloc (Below.refl _ _) (Nat.le_refl _) (.cells cs ty))
  refine hb.add ⟨cs, ty, (0, 0), heap_new _ _, by intro o _ hh; omega, hs, hr⟩ (fun b e x hx ex => ?_) (fun b o e => ?_) (fun b e => ?_)
  · simp only [Chunk.b?, Option.some.injEq] at e; subst e
    have := Chunk.holds_lt (h.holds x hx) ex
    omega
  · simp only [Chunk.owns] at e; subst e; exact h.nothing_new o
  · simp only [Chunk.b?, Option.some.injEq] at e; subst e
    exact h.below.size

theorem Inv.ne_head {G : Gh} {c : Chunk} {σ : List Chunk} {w : World} (h : Inv G (c :: σ) w) {b : Nat} (hb : c.b? = some b) : ∀ x ∈ σ, x.b? ≠ some b := fun x hx ex => by
  have := h.nodup
  rw [List.filterMap_cons_some hb] at this
  exact (List.nodup_cons.mp this).1 (List.mem_filterMap.mpr ⟨x, hx, ex⟩)

/-- The world behind a change to one owned block; the immutable heap may grow by cells that this chunk owned. -/
theorem Inv.change {G G' : Gh} {c c' : Chunk} {σ : List Chunk} {w w' : World} {b : Nat} (h : Inv G (c :: σ) w) (hb : c.b? = some b) (hb' : ∀ x, c'.b? = some x → x = b)
    (hle : G.le G') (hnew : ∀ x o v, G'.C x o = some v → G.C x o = some v ∨ c.owns x o)
    (hos : w'.os = w.os) (hta : w'.tape = w.tape) (hou : w'.output = w.output) (hsz : w'.heap.size = w.heap.size)
    (hbl : ∀ k, k ≠ b → w'.heap[k]? = w.heap[k]?) (hag : ∀ o v, G'.C b o = some v → w'.cell? ⟨b, o, none⟩ = some v)
    (hc : c'.holds G'.C w') (hap : ∀ x o, c'.owns x o → G'.C x o = none) : Inv G' (c' :: σ) w' := by
  have hf := h.fresh c (List.mem_cons_self ..) b hb
  have hne := h.ne_head hb
  have hi : Inv G' σ w' := by
    refine ⟨?_, fun x o v hv => ?_, fun x hx => ?_, h.drop.nodup, fun x hx y o hy => ?_, fun x hx y hy => ?_⟩
    · rw [hle.1]; exact h.below.trans ⟨hos, hta, hou, by omega, fun k hk => hbl k (by omega)⟩
    · by_cases e : x = b
      · subst e; exact hag o v hv
      · rcases hnew x o v hv with h1 | h1
        · rw [← h.agree x o v h1]; exact World.cell?_of_block (hbl x e)
        · have := Chunk.owns_b h1
          rw [hb] at this; cases this; exact absurd rfl e
    · refine Chunk.holds_of_block hle.2 (fun y ey => hbl y ?_) (h.holds x (List.mem_cons_of_mem _ hx))
      intro e; subst e; exact hne x hx ey
    · cases e : G'.C y o with
      | none => rfl
      | some v =>
        rcases hnew y o v e with h1 | h1
        · rw [h.apart x (List.mem_cons_of_mem _ hx) y o hy] at h1; cases h1
        · have h2 := Chunk.owns_b h1
          rw [hb] at h2; cases h2
          exact absurd (Chunk.owns_b hy) (hne x hx)
    · rw [hle.1]; exact h.fresh x (List.mem_cons_of_mem _ hx) y hy
  refine hi.add hc (fun x ex y hy ey => ?_) hap (fun x ex => ?_)
  · have := hb' x ex; subst this; exact hne y hy ey
  · have := hb' x ex; subst this; rw [hle.1]; exact hf

end Go.Proofs.Ytioechdfghglhaa.SL
