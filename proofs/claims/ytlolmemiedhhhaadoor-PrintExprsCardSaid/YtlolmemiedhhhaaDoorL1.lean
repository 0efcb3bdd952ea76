/- Merged: the program logic, plain laws and walks (each part's first row says what it is); no conditions of its own. -/
import Derived.OrdersHeld
import Derived.Defers
import Derived.Recover
import Derived.Below
import Derived.Tactics
import Derived.WalkKit
import Derived.Test.YtlolmemiedhhhaaDoorProg
import Derived.Lib.LaidTab
import Derived.Lib.ItoaNum
import Derived.Laws.Cells
import Derived.Laws.Append
import Derived.Laws.Concat
import Derived.Laws.Small
import Derived.Laws.StructEq
import Derived.Lib.Strings

/- A small program logic for this seat: values of pure data, handles on owned blocks, an immutable part of the heap, and what a call does to them. -/
namespace Go.Proofs.YtlolmemiedhhhaaDoor.SL
set_option linter.unusedVariables false
set_option linter.unusedSimpArgs false
open Go Go.RowKit

/-- Pure data: what immutable memory reads as. A struct is the flat list of its cells. -/
inductive V where
  | bool (b : Bool)
  | int (k : IntKind) (n : Int)
  | str (s : List UInt8)
  | list (xs : List V)
  | ref (x : V)
  | nil
  | agg (xs : List V)
  | iface (t : TypeId) (x : V)
  | nilIface
  | nilFunc

/-- What a slot or an owned cell may hold. -/
inductive D where
  | val (x : V)
  | fix (xs : List V)
  | ptr (b o : Nat)
  | rp (xs : List V)
  | sl (b o n c : Nat)
  | own (v : Value) (xs : List V)
  | agg (ds : List D)
  | tup (ds : List D)
  | func (f : FuncId) (ds : List D)
  | iface (t : TypeId) (d : D)
  | map (r : Nat)
  | junk

def V.cells : V → List V
  | .agg xs => xs
  | x => [x]

def D.cells : D → List D
  | .agg ds => ds
  | .val (.agg xs) => xs.map D.val
  | d => [d]

abbrev Imm := Nat → Nat → Option Value

def Imm.le (C C' : Imm) : Prop := ∀ b o v, C b o = some v → C' b o = some v

theorem Imm.le_refl (C : Imm) : C.le C := fun _ _ _ h => h
theorem Imm.le.trans {C C' C'' : Imm} (h : C.le C') (h' : C'.le C'') : C.le C'' := fun b o v e => h' b o v (h b o v e)

inductive RepV (C : Imm) : Value → V → Prop
  | bool (b : Bool) : RepV C (.bool b) (.bool b)
  | int (k : IntKind) (n : Int) : RepV C (.int k n) (.int k n)
  | str (s : ByteArray) : RepV C (.string s) (.str s.data.toList)
  | empty (a : Option Addr) (c : Nat) : RepV C (.slice a 0 c) (.list [])
  | list (b o c sz : Nat) (xs : List V) (vs : Nat → Nat → Value) (hc : xs.length ≤ c)
      (hsz : ∀ i (h : i < xs.length), (xs[i]).cells.length = sz)
      (hC : ∀ i k, i < xs.length → k < sz → C b (o + i * sz + k) = some (vs i k))
      (hv : ∀ i k (hi : i < xs.length) (hk : k < (xs[i]).cells.length), RepV C (vs i k) ((xs[i]).cells[k])) :
      RepV C (.slice (some ⟨b, o, none⟩) xs.length c) (.list xs)
  | ref (b o : Nat) (x : V) (vs : Nat → Value) (hC : ∀ k, k < x.cells.length → C b (o + k) = some (vs k))
      (hv : ∀ k (hk : k < x.cells.length), RepV C (vs k) (x.cells[k])) : RepV C (.pointer (some ⟨b, o, none⟩)) (.ref x)
  | nil : RepV C (.pointer none) .nil
  | agg (vs : Array Value) (xs : List V) (h : vs.size = xs.length) (hv : ∀ k (hk : k < xs.length), RepV C (vs.getD k undef) (xs[k])) :
      RepV C (.agg vs) (.agg xs)
  | iface (t : TypeId) (v : Value) (x : V) (h : RepV C v x) : RepV C (.iface t v) (.iface t x)
  | nilIface : RepV C .nilIface .nilIface
  | nilFunc : RepV C .nilFunc .nilFunc

inductive RepD (C : Imm) : Value → D → Prop
  | val (v : Value) (x : V) (h : RepV C v x) : RepD C v (.val x)
  | fix (a : Option Addr) (xs : List V) (h : RepV C (.slice a xs.length xs.length) (.list xs)) : RepD C (.slice a xs.length xs.length) (.fix xs)
  | ptr (b o : Nat) : RepD C (.pointer (some ⟨b, o, none⟩)) (.ptr b o)
  | rp (b o : Nat) (xs : List V) (vs : Nat → Value) (hC : ∀ k, k < xs.length → C b (o + k) = some (vs k))
      (hv : ∀ k (hk : k < xs.length), RepV C (vs k) xs[k]) : RepD C (.pointer (some ⟨b, o, none⟩)) (.rp xs)
  | sl (b o n c : Nat) : RepD C (.slice (some ⟨b, o, none⟩) n c) (.sl b o n c)
  | own (v : Value) (xs : List V) (h : RepV C v (.list xs)) : RepD C v (.own v xs)
  | agg (vs : Array Value) (ds : List D) (h : vs.size = ds.length) (hv : ∀ k (hk : k < ds.length), RepD C (vs.getD k undef) (ds[k])) :
      RepD C (.agg vs) (.agg ds)
  | tup (vs : Array Value) (ds : List D) (h : vs.size = ds.length) (hv : ∀ k (hk : k < ds.length), RepD C (vs.getD k undef) (ds[k])) :
      RepD C (.tuple vs) (.tup ds)
  | func (f : FuncId) (vs : Array Value) (ds : List D) (h : vs.size = ds.length) (hv : ∀ k (hk : k < ds.length), RepD C (vs.getD k undef) (ds[k])) :
      RepD C (.func (.func f) #[] vs) (.func f ds)
  | iface (t : TypeId) (v : Value) (d : D) (h : RepD C v d) : RepD C (.iface t v) (.iface t d)
  | map (r : Nat) : RepD C (.map (some r)) (.map r)
  | junk (v : Value) : RepD C v .junk

theorem RepV.mono {C C' : Imm} (h : C.le C') {v : Value} {x : V} (r : RepV C v x) : RepV C' v x := by
  induction r with
  | bool b => exact .bool b
  | int k n => exact .int k n
  | str s => exact .str s
  | empty a c => exact .empty a c
  | list b o c sz xs vs hc hsz hC hv ih => exact .list b o c sz xs vs hc hsz (fun i k hi hk => h _ _ _ (hC i k hi hk)) (fun i k hi hk => ih i k hi hk)
  | ref b o x vs hC hv ih => exact .ref b o x vs (fun k hk => h _ _ _ (hC k hk)) ih
  | nil => exact .nil
  | agg vs xs h' hv ih => exact .agg vs xs h' ih
  | iface t v x _ ih => exact .iface t v x ih
  | nilIface => exact .nilIface
  | nilFunc => exact .nilFunc

theorem RepD.mono {C C' : Imm} (h : C.le C') {v : Value} {d : D} (r : RepD C v d) : RepD C' v d := by
  induction r with
  | val v x hx => exact .val v x (hx.mono h)
  | fix a xs hx => exact .fix a xs (hx.mono h)
  | ptr b o => exact .ptr b o
  | rp b o xs vs hC hv => exact .rp b o xs vs (fun k hk => h _ _ _ (hC k hk)) (fun k hk => (hv k hk).mono h)
  | sl b o n c => exact .sl b o n c
  | own v xs hx => exact .own v xs (hx.mono h)
  | agg vs ds h' hv ih => exact .agg vs ds h' ih
  | tup vs ds h' hv ih => exact .tup vs ds h' ih
  | func f vs ds h' hv ih => exact .func f vs ds h' ih
  | iface t v d _ ih => exact .iface t v d ih
  | map r => exact .map r
  | junk v => exact .junk v

/-- What is owned: a block, all of its cells; or the room behind a slice (nobody else may write there). -/
inductive Chunk where
  | blk (b : Nat) (ds : List D)
  | spare (v : Value) (sz : Nat)
  | ty (b : Nat) (t : TypeId) (n : Nat)
  | row (v : Value) (sz : Nat) (e : TypeId)

/-- The block that is owned, in whole or in part. -/
def Chunk.b? : Chunk → Option Nat
  | .blk b _ => some b
  | .spare (.slice (some a) n c) _ => if n = c then none else some a.block
  | .spare _ _ => none
  | .ty _ _ _ => none
  | .row (.slice (some a) _ c) _ _ => if c = 0 then none else some a.block
  | .row _ _ _ => none

/-- The cells that nobody else may hold for immutable. -/
def Chunk.owns : Chunk → Nat → Nat → Prop
  | .blk b _, b', _ => b' = b
  | .spare (.slice (some a) n c) sz, b', o => n ≠ c ∧ b' = a.block ∧ a.off + n * sz ≤ o
  | .spare _ _, _, _ => False
  | .ty _ _ _, _, _ => False
  | .row (.slice (some a) n c) sz _, b', o => c ≠ 0 ∧ b' = a.block ∧ a.off + n * sz ≤ o
  | .row _ _ _, _, _ => False

def Chunk.holds (C : Imm) (w : World) : Chunk → Prop
  | .blk b ds => ∃ cs ty fz, w.heap[b]? = some (.cells cs ty fz) ∧ (∀ o, o < cs.size → ¬ (fz.1 ≤ o ∧ o < fz.2)) ∧ cs.size = ds.length ∧
      ∀ k (hk : k < ds.length), RepD C (cs.getD k undef) (ds[k])
  | .spare v sz => ∃ a n c, v = .slice a n c ∧ (n = c ∨ ∃ b f cs ty fz, a = some ⟨b, f, none⟩ ∧ n < c ∧ w.heap[b]? = some (.cells cs ty fz) ∧
      (∀ o, o < cs.size → ¬ (fz.1 ≤ o ∧ o < fz.2)) ∧ f + c * sz ≤ cs.size)
  | .ty b t n => ∃ cs fz, w.heap[b]? = some (.cells cs t fz) ∧ cs.size = n
  | .row v sz e => ∃ a n c, v = .slice a n c ∧ n ≤ c ∧ (c = 0 ∨ ∃ b cs fz, a = some ⟨b, 0, none⟩ ∧ w.heap[b]? = some (.cells cs e fz) ∧
      (∀ o, o < cs.size → ¬ (fz.1 ≤ o ∧ o < fz.2)) ∧ c * sz ≤ cs.size)

/-- A block keeps its type and its size. -/
def SameTy (w w' : World) : Prop := ∀ (b : Nat) (t : TypeId) (cs : Array Value) (fz : Nat × Nat), w.heap[b]? = some (.cells cs t fz) → ∃ cs' fz', w'.heap[b]? = some (Obj.cells cs' t fz') ∧ cs'.size = cs.size

/-- What the tables of Go's library that lie in package-level variables hold, in the world in which the law was called. -/
def Tabs (W : World) : Prop := Lib.TabIs Tryd.prog W "internal/strconv.uint64pow10" .u64 Lib.pow10Tab

/-- The ghost state: the world in which the law was called, the immutable heap, and what the library's tables hold. -/
structure Gh where
  W : World
  C : Imm
  ok : Tabs W

def Gh.le (G G' : Gh) : Prop := G'.W = G.W ∧ G.C.le G'.C

theorem Gh.le_refl (G : Gh) : G.le G := ⟨rfl, Imm.le_refl _⟩
theorem Gh.le.trans {G G' G'' : Gh} (h : G.le G') (h' : G'.le G'') : G.le G'' := ⟨h'.1.trans h.1, Imm.le.trans h.2 h'.2⟩

structure Inv (G : Gh) (σ : List Chunk) (w : World) : Prop where
  below : Below G.W.heap.size G.W w
  agree : ∀ b o v, G.C b o = some v → w.cell? ⟨b, o, none⟩ = some v
  holds : ∀ c ∈ σ, c.holds G.C w
  nodup : (σ.filterMap Chunk.b?).Nodup
  apart : ∀ c ∈ σ, ∀ b o, c.owns b o → G.C b o = none
  fresh : ∀ c ∈ σ, ∀ b, c.b? = some b → G.W.heap.size ≤ b

abbrev Defs := List (FuncId × List D)

inductive SlotL where
  | nil
  | cons (k : Nat) (d : D) (l : SlotL)

/-- The slots of a frame: how many, and what is known of some (the first entry counts; of the others nothing is known). -/
structure Slots where
  n : Nat
  l : SlotL

noncomputable def look (l : SlotL) (t : Nat) : Option D := SlotL.rec none (fun k d _ ih => cond (Nat.beq k t) (some d) ih) l

noncomputable def orJunk (x : Option D) : D := Option.rec .junk (fun d => d) x

noncomputable def Slots.get (s : Slots) (t : Nat) : D := orJunk (look s.l t)

theorem look_cons (k : Nat) (d : D) (l : SlotL) (t : Nat) : look (.cons k d l) t = if k = t then some d else look l t := by
  show cond (Nat.beq k t) _ _ = _
  by_cases h : k = t
  · subst h; simp
  · rw [if_neg h, show Nat.beq k t = false by cases e : Nat.beq k t with | false => rfl | true => exact absurd (Nat.eq_of_beq_eq_true e) h]; rfl

/-- The frame's slots, and its deferred calls. -/
structure RelA (G : Gh) (s : Slots) (δ : Defs) (a : Act) : Prop where
  size : a.tmps.size = s.n
  slot : ∀ k, k < s.n → RepD G.C (a.tmps.getD k undef) (s.get k)
  defs : a.defers.length = δ.length
  defd : ∀ k (hk : k < δ.length), ∃ cap args, a.defers[k]? = some { target := .fn (.func (δ[k]).1) cap, args := args } ∧
    (args ++ cap).size = (δ[k]).2.length ∧ ∀ j (hj : j < (δ[k]).2.length), RepD G.C ((args ++ cap).getD j undef) ((δ[k]).2[j])

theorem RelA.mono {G G' : Gh} (h : G.le G') {s : Slots} {δ : Defs} {a : Act} (r : RelA G s δ a) : RelA G' s δ a :=
  ⟨r.size, fun k hk => (r.slot k hk).mono h.2, r.defs, fun k hk => by
    obtain ⟨cap, args, h1, h2, h3⟩ := r.defd k hk
    exact ⟨cap, args, h1, h2, fun j hj => (h3 j hj).mono h.2⟩⟩

theorem Inv.perm {G : Gh} {σ σ' : List Chunk} {w : World} (h : Inv G σ w) (p : σ.Perm σ') : Inv G σ' w :=
  ⟨h.below, h.agree, fun c hc => h.holds c (p.mem_iff.mpr hc), (p.filterMap _).nodup_iff.mp h.nodup, fun c hc => h.apart c (p.mem_iff.mpr hc), fun c hc => h.fresh c (p.mem_iff.mpr hc)⟩

theorem Inv.sub {G : Gh} {σ σ' : List Chunk} {w : World} (h : Inv G σ w) (p : σ'.Sublist σ) : Inv G σ' w :=
  ⟨h.below, h.agree, fun c hc => h.holds c (p.subset hc), (p.filterMap _).nodup h.nodup, fun c hc => h.apart c (p.subset hc), fun c hc => h.fresh c (p.subset hc)⟩

theorem Inv.drop {G : Gh} {c : Chunk} {σ : List Chunk} {w : World} (h : Inv G (c :: σ) w) : Inv G σ w := h.sub (List.sublist_cons_self _ _)

theorem Inv.drew {G : Gh} {σ : List Chunk} {w : World} (h : Inv G σ w) : Inv G σ w.drew :=
  ⟨h.below.drew, h.agree, h.holds, h.nodup, h.apart, h.fresh⟩

theorem lt_of_heap {w : World} {b : Nat} {x : Obj} (h : w.heap[b]? = some x) : b < w.heap.size := by
  rcases Nat.lt_or_ge b w.heap.size with h' | h'
  · exact h'
  · rw [Array.getElem?_eq_none h'] at h; cases h

theorem Chunk.holds_lt {C : Imm} {w : World} {c : Chunk} (h : c.holds C w) {b : Nat} (hb : c.b? = some b) : b < w.heap.size := by
  cases c with
  | blk b' ds =>
    obtain ⟨cs, ty, fz, h, _⟩ := h
    simp only [Chunk.b?, Option.some.injEq] at hb; subst hb
    exact lt_of_heap h
  | spare v sz =>
    obtain ⟨a, n, c, rfl, h⟩ := h
    rcases h with rfl | ⟨b', f, cs, ty, fz, rfl, hlt, h, _⟩
    · cases a <;> simp [Chunk.b?] at hb
    · simp only [Chunk.b?] at hb
      rw [if_neg (by omega)] at hb
      simp only [Option.some.injEq] at hb; subst hb
      exact lt_of_heap h
  | ty b' t n => simp [Chunk.b?] at hb
  | row v sz e =>
    obtain ⟨a, n, c, rfl, _, h⟩ := h
    rcases h with rfl | ⟨b', cs, fz, rfl, h, _⟩
    · cases a <;> simp [Chunk.b?] at hb
    · simp only [Chunk.b?] at hb
      split at hb
      · cases hb
      · simp only [Option.some.injEq] at hb; subst hb
        exact lt_of_heap h

theorem Chunk.owns_b {c : Chunk} {b o : Nat} (h : c.owns b o) : c.b? = some b := by
  cases c with
  | blk b' ds => simp only [Chunk.owns] at h; subst h; rfl
  | spare v sz =>
    cases v with
    | slice a n c =>
      cases a with
      | none => exact h.elim
      | some a =>
        obtain ⟨h1, rfl, _⟩ : n ≠ c ∧ b = a.block ∧ a.off + n * sz ≤ o := h
        simp only [Chunk.b?, if_neg h1]
    | _ => exact h.elim
  | ty b' t n => exact h.elim
  | row v sz e =>
    cases v with
    | slice a n c =>
      cases a with
      | none => exact h.elim
      | some a =>
        obtain ⟨h1, rfl, _⟩ : c ≠ 0 ∧ b = a.block ∧ a.off + n * sz ≤ o := h
        simp only [Chunk.b?, if_neg h1]
    | _ => exact h.elim

theorem SameTy.refl (w : World) : SameTy w w := fun _ _ cs fz h => ⟨cs, fz, h, rfl⟩
theorem SameTy.of_below {w w' : World} (hb : Below w.heap.size w w') : SameTy w w' := fun b _ cs fz h => ⟨cs, fz, (hb.block b (lt_of_heap h)).trans h, rfl⟩

/-- A chunk holds still where its block reads as it did and the immutable heap has grown. -/
theorem Chunk.holds_of_block {C C' : Imm} (hC : C.le C') {w w' : World} {c : Chunk} (hb : ∀ b, c.b? = some b → w'.heap[b]? = w.heap[b]?) (h : c.holds C w) (hT : SameTy w w') : c.holds C' w' := by
  cases c with
  | blk b ds =>
    obtain ⟨cs, ty, fz, h, h1, h2, h3⟩ := h
    exact ⟨cs, ty, fz, ((hb b rfl).trans h), h1, h2, fun k hk => (h3 k hk).mono hC⟩
  | spare v sz =>
    obtain ⟨a, n, c, rfl, h⟩ := h
    refine ⟨a, n, c, rfl, ?_⟩
    rcases h with h | ⟨b', f, cs, ty, fz, rfl, hlt, h, h1, h2⟩
    · exact .inl h
    · refine .inr ⟨b', f, cs, ty, fz, rfl, hlt, (hb b' ?_).trans h, h1, h2⟩
      simp only [Chunk.b?]
      rw [if_neg (by omega)]
  | ty b t n =>
    obtain ⟨cs, fz, h, hn⟩ := h
    obtain ⟨cs', fz', h', hs⟩ := hT b t cs fz h
    exact ⟨cs', fz', h', by omega⟩
  | row v sz e =>
    obtain ⟨a, n, c, rfl, h0, h⟩ := h
    refine ⟨a, n, c, rfl, h0, ?_⟩
    by_cases hc : c = 0
    · exact .inl hc
    · rcases h with h | ⟨b', cs, fz, rfl, h, h1, h2⟩
      · exact .inl h
      · refine .inr ⟨b', cs, fz, rfl, (hb b' ?_).trans h, h1, h2⟩
        simp only [Chunk.b?]
        rw [if_neg hc]

/-- Worlds that differ only beyond what was there. -/
theorem Inv.of_below {G : Gh} {σ : List Chunk} {w w' : World} (h : Inv G σ w) (hb : Below w.heap.size w w') : Inv G σ w' := by
  refine ⟨h.below.trans (hb.mono h.below.size), fun b o v hv => ?_, fun c hc => ?_, h.nodup, h.apart, h.fresh⟩
  · have := h.agree b o v hv
    rw [hb.cell (World.block_lt_of_cell? w ⟨b, o, none⟩ this)]; exact this
  · exact Chunk.holds_of_block (Imm.le_refl _) (fun b e => hb.block _ (Chunk.holds_lt (h.holds c hc) e)) (h.holds c hc) (.of_below hb)

theorem heap_new (w : World) (o : Obj) : (w.alloc o).heap[w.heap.size]? = some o := by
  show (w.heap.push o)[_]? = _
  simp

theorem Inv.nothing_new {G : Gh} {σ : List Chunk} {w : World} (h : Inv G σ w) (o : Nat) : G.C w.heap.size o = none := by
  cases e : G.C w.heap.size o with
  | none => rfl
  | some v => exact absurd (World.block_lt_of_cell? w ⟨w.heap.size, o, none⟩ (h.agree _ _ _ e)) (by simp)

/-- One more chunk, that lies apart. -/
theorem Inv.add {G : Gh} {c : Chunk} {σ : List Chunk} {w : World} (h : Inv G σ w) (hc : c.holds G.C w) (hb : ∀ b, c.b? = some b → ∀ x ∈ σ, x.b? ≠ some b)
    (ha : ∀ b o, c.owns b o → G.C b o = none) (hf : ∀ b, c.b? = some b → G.W.heap.size ≤ b) : Inv G (c :: σ) w := by
  refine ⟨h.below, h.agree, fun x hx => ?_, ?_, fun x hx => ?_, fun x hx => ?_⟩
  · rcases List.mem_cons.mp hx with rfl | hx
    · exact hc
    · exact h.holds x hx
  · cases e : c.b? with
    | none => rw [List.filterMap_cons_none e]; exact h.nodup
    | some b =>
      rw [List.filterMap_cons_some e]
      refine List.nodup_cons.mpr ⟨fun hm => ?_, h.nodup⟩
      obtain ⟨x, hx, ex⟩ := List.mem_filterMap.mp hm
      exact hb b e x hx ex
  · rcases List.mem_cons.mp hx with rfl | hx
    · exact ha
    · exact h.apart x hx
  · rcases List.mem_cons.mp hx with rfl | hx
    · exact hf
    · exact h.fresh x hx

/-- A new block, owned. -/
theorem Inv.alloc {G : Gh} {σ : List Chunk} {w : World} (h : Inv G σ w) {cs : Array Value} {ty : TypeId} {ds : List D} (hs : cs.size = ds.length)
    (hr : ∀ k (hk : k < ds.length), RepD G.C (cs.getD k undef) (ds[k])) : Inv G (.blk w.heap.size ds :: σ) (w.alloc (.cells cs ty)) := by
  have hb := h.of_below (Below.alloc (Below.refl _ _) (Nat.le_refl _) (.cells cs ty))
  refine hb.add ⟨cs, ty, (0, 0), heap_new _ _, by intro o _ hh; omega, hs, hr⟩ (fun b e x hx ex => ?_) (fun b o e => ?_) (fun b e => ?_)
  · simp only [Chunk.b?, Option.some.injEq] at e; subst e
    have := Chunk.holds_lt (h.holds x hx) ex
    omega
  · simp only [Chunk.owns] at e; subst e; exact h.nothing_new o
  · simp only [Chunk.b?, Option.some.injEq] at e; subst e
    exact h.below.size

theorem Inv.ne_head {G : Gh} {c : Chunk} {σ : List Chunk} {w : World} (h : Inv G (c :: σ) w) {b : Nat} (hb : c.b? = some b) : ∀ x ∈ σ, x.b? ≠ some b := fun x hx ex => by
  have := h.nodup
  rw [List.filterMap_cons_some hb] at this
  exact (List.nodup_cons.mp this).1 (List.mem_filterMap.mpr ⟨x, hx, ex⟩)

/-- The world behind a change to one owned block; the immutable heap may grow by cells that this chunk owned. -/
theorem Inv.change {G G' : Gh} {c c' : Chunk} {σ : List Chunk} {w w' : World} {b : Nat} (h : Inv G (c :: σ) w) (hb : c.b? = some b) (hb' : ∀ x, c'.b? = some x → x = b)
    (hle : G.le G') (hnew : ∀ x o v, G'.C x o = some v → G.C x o = some v ∨ c.owns x o)
    (hos : w'.os = w.os) (hta : w'.tape = w.tape) (hou : w'.output = w.output) (hsz : w'.heap.size = w.heap.size)
    (hbl : ∀ k, k ≠ b → w'.heap[k]? = w.heap[k]?) (hag : ∀ o v, G'.C b o = some v → w'.cell? ⟨b, o, none⟩ = some v)
    (hc : c'.holds G'.C w') (hap : ∀ x o, c'.owns x o → G'.C x o = none) (hty : ∀ t cs fz, w.heap[b]? = some (.cells cs t fz) → ∃ cs' fz', w'.heap[b]? = some (.cells cs' t fz') ∧ cs'.size = cs.size) : Inv G' (c' :: σ) w' := by
  have hT : SameTy w w' := fun k t cs fz h => by
    by_cases e : k = b
    · subst e; exact hty t cs fz h
    · exact ⟨cs, fz, (hbl k e).trans h, rfl⟩
  have hf := h.fresh c (List.mem_cons_self ..) b hb
  have hne := h.ne_head hb
  have hi : Inv G' σ w' := by
    refine ⟨?_, fun x o v hv => ?_, fun x hx => ?_, h.drop.nodup, fun x hx y o hy => ?_, fun x hx y hy => ?_⟩
    · rw [hle.1]; exact h.below.trans ⟨hos, hta, hou, by omega, fun k hk => hbl k (by omega)⟩
    · by_cases e : x = b
      · subst e; exact hag o v hv
      · rcases hnew x o v hv with h1 | h1
        · rw [← h.agree x o v h1]; exact World.cell?_of_block (hbl x e)
        · have := Chunk.owns_b h1
          rw [hb] at this; cases this; exact absurd rfl e
    · refine Chunk.holds_of_block hle.2 (fun y ey => hbl y ?_) (h.holds x (List.mem_cons_of_mem _ hx)) hT
      intro e; subst e; exact hne x hx ey
    · cases e : G'.C y o with
      | none => rfl
      | some v =>
        rcases hnew y o v e with h1 | h1
        · rw [h.apart x (List.mem_cons_of_mem _ hx) y o hy] at h1; cases h1
        · have h2 := Chunk.owns_b h1
          rw [hb] at h2; cases h2
          exact absurd (Chunk.owns_b hy) (hne x hx)
    · rw [hle.1]; exact h.fresh x (List.mem_cons_of_mem _ hx) y hy
  refine hi.add hc (fun x ex y hy ey => ?_) hap (fun x ex => ?_)
  · have := hb' x ex; subst this; exact hne y hy ey
  · have := hb' x ex; subst this; rw [hle.1]; exact hf

end Go.Proofs.YtlolmemiedhhhaaDoor.SL

/- The program logic, second part: weakening, freezing, the rules of control. -/
namespace Go.Proofs.YtlolmemiedhhhaaDoor.SL
set_option linter.unusedVariables false
set_option linter.unusedSimpArgs false
open Go Go.RowKit

/-! ### Slots -/

def ofConst : Value → D
  | .bool b => .val (.bool b)
  | .int k n => .val (.int k n)
  | .string s => .val (.str s.data.toList)
  | .pointer none => .val .nil
  | .slice none 0 0 => .fix []
  | .nilFunc => .val .nilFunc
  | .nilIface => .val .nilIface
  | _ => .junk

theorem ofConst_rep (C : Imm) (v : Value) : RepD C v (ofConst v) := by
  unfold ofConst
  split
  · exact .val _ _ (.bool _)
  · exact .val _ _ (.int _ _)
  · exact .val _ _ (.str _)
  · exact .val _ _ .nil
  · exact .fix none [] (.empty none 0)
  · exact .val _ _ .nilFunc
  · exact .val _ _ .nilIface
  · exact .junk _

noncomputable def evalO (s : Slots) : Operand → D
  | .tmp t => cond (Nat.blt t s.n) (s.get t) .junk
  | .const v => ofConst v
  | .func f => .func f []
  | .global _ => .junk

theorem evalO_lt {s : Slots} {t : Nat} (h : t < s.n) : evalO s (.tmp t) = s.get t := by
  show cond (Nat.blt t s.n) _ _ = _
  rw [show Nat.blt t s.n = true by simpa [Nat.blt_eq] using h]; rfl
theorem evalO_ge {s : Slots} {t : Nat} (h : ¬ t < s.n) : evalO s (.tmp t) = .junk := by
  show cond (Nat.blt t s.n) _ _ = _
  rw [show Nat.blt t s.n = false by cases e : Nat.blt t s.n with | false => rfl | true => exact absurd (Nat.blt_eq.mp e) h]; rfl

theorem RelA.eval {G : Gh} {s : Slots} {δ : Defs} {a : Act} (r : RelA G s δ a) (x : Operand) : RepD G.C (a.eval x) (evalO s x) := by
  cases x with
  | tmp t =>
    by_cases h : t < s.n
    · rw [evalO_lt h]; exact r.slot t h
    · rw [evalO_ge h]; exact .junk _
  | const v => exact ofConst_rep _ v
  | func f => exact .func f #[] [] rfl (fun k hk => absurd hk (by simp))
  | global g => exact .junk _

def sput (s : Slots) : Option Tmp → D → Slots
  | some t, d => ⟨s.n, .cons t d s.l⟩
  | none, _ => s

theorem get_put (s : Slots) (t : Nat) (d : D) (k : Nat) : (sput s (some t) d).get k = if t = k then d else s.get k := by
  show orJunk (look (.cons t d s.l) k) = _
  rw [look_cons]
  split
  · rfl
  · rfl

theorem RelA.put {G : Gh} {s : Slots} {δ : Defs} {a : Act} (r : RelA G s δ a) (dst : Option Tmp) {v : Value} {d : D} (h : RepD G.C v d) :
    RelA G (sput s dst d) δ (a.put dst v) := by
  cases dst with
  | none => exact r
  | some t =>
    refine ⟨by simp [Act.put, sput, r.size], fun k hk => ?_, r.defs, r.defd⟩
    rw [get_put]
    have hk : k < s.n := hk
    simp only [Act.put]
    by_cases e : t = k
    · subst e
      have : t < a.tmps.size := by rw [r.size]; exact hk
      simp only [Array.getD_eq_getD_getElem?, Array.getElem?_setIfInBounds_self_of_lt this, Option.getD_some, if_true]; exact h
    · simp only [Array.getD_eq_getD_getElem?, Array.getElem?_setIfInBounds_ne e, if_neg e]
      have := r.slot k hk
      simpa only [Array.getD_eq_getD_getElem?] using this

/-- A slot read in another way. -/
theorem RelA.recast {G : Gh} {s : Slots} {δ : Defs} {a : Act} (r : RelA G s δ a) (t : Nat) {d : D} (h : ∀ v, RepD G.C v (s.get t) → RepD G.C v d) : RelA G (sput s (some t) d) δ a := by
  refine ⟨r.size, fun k hk => ?_, r.defs, r.defd⟩
  rw [get_put]
  have hk : k < s.n := hk
  split
  · rename_i e; subst e; exact h _ (r.slot _ hk)
  · exact r.slot k hk

/-! ### Weakening -/

def Weak (d d' : D) : Prop := ∀ C v, RepD C v d → RepD C v d'

theorem Weak.refl (d : D) : Weak d d := fun _ _ h => h
theorem Weak.junk (d : D) : Weak d .junk := fun _ v _ => .junk v
theorem Weak.trans {a b c : D} (h : Weak a b) (h' : Weak b c) : Weak a c := fun C v r => h' C v (h C v r)

mutual
def toV : D → Option V
  | .val x => some x
  | .fix xs => some (.list xs)
  | .own _ xs => some (.list xs)
  | .agg ds => (toVs ds).map .agg
  | .iface t d => (toV d).map (.iface t)
  | _ => none
def toVs : List D → Option (List V)
  | [] => some []
  | d :: ds => match toV d, toVs ds with
    | some x, some xs => some (x :: xs)
    | _, _ => none
end

theorem toVs_get : ∀ (ds : List D) (xs : List V), toVs ds = some xs → ds.length = xs.length ∧ ∀ k (h : k < ds.length) (h' : k < xs.length), toV ds[k] = some xs[k] := by
  intro ds
  induction ds with
  | nil => intro xs h; simp only [toVs, Option.some.injEq] at h; subst h; exact ⟨rfl, fun k h => absurd h (by simp)⟩
  | cons d ds ih =>
    intro xs h
    simp only [toVs] at h
    split at h
    · rename_i x ys hx hys
      simp only [Option.some.injEq] at h; subst h
      obtain ⟨h1, h2⟩ := ih ys hys
      refine ⟨by simp [h1], fun k hk hk' => ?_⟩
      cases k with
      | zero => exact hx
      | succ k => exact h2 k _ _
    · cases h

theorem toV_rep {C : Imm} {v : Value} {d : D} (r : RepD C v d) : ∀ x, toV d = some x → RepV C v x := by
  induction r with
  | val v x h => intro y e; simp only [toV, Option.some.injEq] at e; subst e; exact h
  | fix a xs h => intro y e; simp only [toV, Option.some.injEq] at e; subst e; exact h
  | ptr b o => intro y e; simp [toV] at e
  | rp b o xs vs hC hv => intro y e; simp [toV] at e
  | sl b o n c => intro y e; simp [toV] at e
  | own v xs h => intro y e; simp only [toV, Option.some.injEq] at e; subst e; exact h
  | agg vs ds h hv ih =>
    intro y e
    simp only [toV, Option.map_eq_some_iff] at e
    obtain ⟨xs, h1, rfl⟩ := e
    obtain ⟨h2, h3⟩ := toVs_get ds xs h1
    exact .agg vs xs (h.trans h2) (fun k hk => ih k (by omega) _ (h3 k (by omega) hk))
  | tup vs ds h hv ih => intro y e; simp [toV] at e
  | func f vs ds h hv ih => intro y e; simp [toV] at e
  | iface t v d h ih =>
    intro y e
    simp only [toV, Option.map_eq_some_iff] at e
    obtain ⟨x, h1, rfl⟩ := e
    exact .iface t v x (ih x h1)
  | map r => intro y e; simp [toV] at e
  | junk v => intro y e; simp [toV] at e

theorem Weak.toV {d : D} {x : V} (h : toV d = some x) : Weak d (.val x) := fun _ v r => .val v x (toV_rep r x h)

/-- The other way: a struct of pure data as a struct of cells. -/
theorem Weak.agg (xs : List V) : Weak (.val (.agg xs)) (.agg (xs.map .val)) := by
  intro C v r
  cases r with
  | val _ _ h =>
    cases h with
    | agg vs _ hs hv =>
      refine .agg vs _ (by simpa using hs) (fun k hk => ?_)
      simp only [List.length_map] at hk
      simp only [List.getElem_map]
      exact .val _ _ (hv k hk)

/-- A pointer to immutable memory as a place in it. -/
theorem Weak.ref (x : V) : Weak (.val (.ref x)) (.rp x.cells) := by
  intro C v r
  cases r with
  | val _ _ h => cases h with | ref b o x vs hC hv => exact .rp b o x.cells vs hC hv

/-- A place in immutable memory, all of it, is a pointer to the datum. -/
theorem Weak.rp_agg (xs : List V) : Weak (.rp xs) (.val (.ref (.agg xs))) := by
  intro C v r
  cases r with
  | rp b f xs vs hC hv => exact .val _ _ (.ref b f (.agg xs) vs hC hv)

inductive Weaks : List D → List D → Prop
  | nil : Weaks [] []
  | junk {d : D} {ds ds' : List D} (h : Weaks ds ds') : Weaks (d :: ds) (.junk :: ds')
  | same {d : D} {ds ds' : List D} (h : Weaks ds ds') : Weaks (d :: ds) (d :: ds')
  | rpAgg {xs : List V} {ds ds' : List D} (h : Weaks ds ds') : Weaks (.rp xs :: ds) (.val (.ref (.agg xs)) :: ds')
  | toV {d : D} {x : V} {ds ds' : List D} (e : toV d = some x) (h : Weaks ds ds') : Weaks (d :: ds) (.val x :: ds')
  | ref {d : D} {y : V} {xs : List V} {ds ds' : List D} (e : d = .val (.ref y)) (e2 : y.cells = xs) (h : Weaks ds ds') : Weaks (d :: ds) (.rp xs :: ds')
  | cons {d d' : D} {ds ds' : List D} : Weak d d' → Weaks ds ds' → Weaks (d :: ds) (d' :: ds')

theorem Weaks.refl : ∀ ds : List D, Weaks ds ds
  | [] => .nil
  | d :: ds => .cons (Weak.refl d) (Weaks.refl ds)

theorem Weaks.at0 {d d' : D} {ds ds' : List D} (h : Weak d d') (ih : ds.length = ds'.length ∧ ∀ k (hk : k < ds.length) (hk' : k < ds'.length), Weak ds[k] ds'[k]) :
    (d :: ds).length = (d' :: ds').length ∧ ∀ k (hk : k < (d :: ds).length) (hk' : k < (d' :: ds').length), Weak (d :: ds)[k] (d' :: ds')[k] := by
  refine ⟨by simp [ih.1], fun k hk hk' => ?_⟩
  cases k with
  | zero => exact h
  | succ k => exact ih.2 k _ _

theorem Weaks.get {ds ds' : List D} (h : Weaks ds ds') : ds.length = ds'.length ∧ ∀ k (hk : k < ds.length) (hk' : k < ds'.length), Weak ds[k] ds'[k] := by
  induction h with
  | nil => exact ⟨rfl, fun k hk => absurd hk (by simp)⟩
  | junk _ ih => exact at0 (Weak.junk _) ih
  | same _ ih => exact at0 (Weak.refl _) ih
  | rpAgg _ ih => exact at0 (Weak.rp_agg _) ih
  | toV e _ ih => exact at0 (Weak.toV e) ih
  | ref e e2 _ ih => subst e; subst e2; exact at0 (Weak.ref _) ih
  | cons h _ ih => exact at0 h ih

/-- Less is known of the slots. -/
inductive WkL (s : Slots) : SlotL → Prop
  | nil : WkL s .nil
  | same {t : Nat} {l : SlotL} (hl : WkL s l) : WkL s (.cons t (s.get t) l)
  | rpAgg {t : Nat} {xs : List V} {l : SlotL} (e : s.get t = .rp xs) (hl : WkL s l) : WkL s (.cons t (.val (.ref (.agg xs))) l)
  | toV {t : Nat} {x : V} {l : SlotL} (e : toV (s.get t) = some x) (hl : WkL s l) : WkL s (.cons t (.val x) l)
  | ref {t : Nat} {y : V} {xs : List V} {l : SlotL} (e : s.get t = .val (.ref y)) (e2 : y.cells = xs) (hl : WkL s l) : WkL s (.cons t (.rp xs) l)
  | cons {t : Nat} {d : D} {l : SlotL} (h : Weak (s.get t) d) (hl : WkL s l) : WkL s (.cons t d l)

theorem WkL.at0 {s : Slots} {t : Nat} {d : D} {l : SlotL} (h : Weak (s.get t) d) {k : Nat} (ih : Weak (s.get k) (orJunk (look l k))) : Weak (s.get k) (orJunk (look (.cons t d l) k)) := by
  rw [look_cons]
  split
  · rename_i e; subst e; exact h
  · exact ih

theorem WkL.get {s : Slots} {l : SlotL} (h : WkL s l) (k : Nat) : Weak (s.get k) (orJunk (look l k)) := by
  induction h with
  | nil => exact Weak.junk _
  | same _ ih => exact at0 (Weak.refl _) ih
  | rpAgg e _ ih => exact at0 (by rw [e]; exact Weak.rp_agg _) ih
  | toV e _ ih => exact at0 (Weak.toV e) ih
  | ref e e2 _ ih => subst e2; exact at0 (by rw [e]; exact Weak.ref _) ih
  | cons h _ ih => exact at0 h ih

structure SWk (s s' : Slots) : Prop where
  n : s.n = s'.n
  l : WkL s s'.l

/-- What the rules speak of: each value reads as its datum. -/
def RepDs (C : Imm) (vs : Array Value) (ds : List D) : Prop := vs.size = ds.length ∧ ∀ k (hk : k < ds.length), RepD C (vs.getD k undef) ds[k]

theorem RepDs.weak {C : Imm} {vs : Array Value} {ds ds' : List D} (h : RepDs C vs ds) (hw : Weaks ds ds') : RepDs C vs ds' :=
  ⟨h.1.trans hw.get.1, fun k hk => hw.get.2 k (by rw [hw.get.1]; exact hk) hk _ _ (h.2 k (by rw [hw.get.1]; exact hk))⟩

/-! ### The triple -/

abbrev Post := Exit → Slots → Defs → List Chunk → Prop

def Lift (G : Gh) (Q : Post) : Exit → Act → World → Prop := fun e a w => ∃ G' s δ σ, G.le G' ∧ Inv G' σ w ∧ RelA G' s δ a ∧ Q e s δ σ

theorem Lift.mono {G G' : Gh} (h : G.le G') {Q : Post} {e : Exit} {a : Act} {w : World} (l : Lift G' Q e a w) : Lift G Q e a w := by
  obtain ⟨H, s, δ, σ, h1, h2⟩ := l
  exact ⟨H, s, δ, σ, h.trans h1, h2⟩

/-- Code, begun with these slots, deferred calls and owned blocks, ends as Q says. -/
def SW (P : Program) (c : Code) (Q : Post) (s : Slots) (δ : Defs) (σ : List Chunk) : Prop :=
  ∀ G a w, Inv G σ w → RelA G s δ a → c.wp P (Lift G Q) a w

def thenQ (K : Slots → Defs → List Chunk → Prop) (Q : Post) : Post
  | .normal, s, δ, σ => K s δ σ
  | e, s, δ, σ => Q e s δ σ

section rules
variable {P : Program} {Q : Post} {s : Slots} {δ : Defs} {σ : List Chunk}

theorem sw_mono {c : Code} {Q' : Post} (h : SW P c Q s δ σ) (hq : ∀ e s δ σ, Q e s δ σ → Q' e s δ σ) : SW P c Q' s δ σ := fun G a w hi hr =>
  wp_mono (h G a w hi hr) fun e a w ⟨G', s', δ', σ', h1, h2, h3, h4⟩ => ⟨G', s', δ', σ', h1, h2, h3, hq _ _ _ _ h4⟩

theorem sw_seq {x y : Code} (h : SW P x (thenQ (SW P y Q) Q) s δ σ) : SW P (.seq x y) Q s δ σ := fun G a w hi hr => by
  refine wp_seq (wp_mono (h G a w hi hr) fun e a' w' ⟨G', s', δ', σ', h1, h2, h3, h4⟩ => ?_)
  cases e with
  | normal => exact wp_mono (h4 G' a' w' h2 h3) fun e a w l => l.mono h1
  | exit id => exact ⟨G', s', δ', σ', h1, h2, h3, h4⟩
  | goto l => exact ⟨G', s', δ', σ', h1, h2, h3, h4⟩
  | ret => exact ⟨G', s', δ', σ', h1, h2, h3, h4⟩
  | panic ch => exact ⟨G', s', δ', σ', h1, h2, h3, h4⟩
  | outgrown => exact ⟨G', s', δ', σ', h1, h2, h3, h4⟩

theorem sw_skip (h : Q .normal s δ σ) : SW P .skip Q s δ σ := fun G a w hi hr => wp_skip ⟨G, s, δ, σ, G.le_refl, hi, hr, h⟩
theorem sw_exit {id : Nat} (h : Q (.exit id) s δ σ) : SW P (.exit id) Q s δ σ := fun G a w hi hr => wp_exit ⟨G, s, δ, σ, G.le_refl, hi, hr, h⟩
theorem sw_ret (h : Q .ret s δ σ) : SW P .ret Q s δ σ := fun G a w hi hr => wp_ret ⟨G, s, δ, σ, G.le_refl, hi, hr, h⟩

theorem evalO_bool {G : Gh} {a : Act} (r : RelA G s δ a) {x : Operand} {b : Bool} (h : evalO s x = .val (.bool b)) : a.eval x = .bool b := by
  have := r.eval x
  rw [h] at this
  generalize a.eval x = v at this
  cases this with
  | val _ _ h => cases h; rfl

theorem sw_cond {c : Operand} {x y : Code} {b : Bool} (hc : evalO s c = .val (.bool b)) (ht : b = true → SW P x Q s δ σ) (hf : b = false → SW P y Q s δ σ) :
    SW P (.cond c x y) Q s δ σ := fun G a w hi hr =>
  wp_cond_split (evalO_bool hr hc) (fun h => ht h G a w hi hr) (fun h => hf h G a w hi hr)

def inBlockQ (id : Nat) (Q : Post) : Post
  | .exit id', s, δ, σ => if id' = id then Q .normal s δ σ else Q (.exit id') s δ σ
  | e, s, δ, σ => Q e s δ σ

theorem sw_block {id : Nat} {c : Code} (h : SW P c (inBlockQ id Q) s δ σ) : SW P (.block id c) Q s δ σ := fun G a w hi hr => by
  refine wp_block (wp_mono (h G a w hi hr) fun e a' w' ⟨G', s', δ', σ', h1, h2, h3, h4⟩ => ?_)
  cases e with
  | exit id' =>
    simp only [Exit.inBlock, inBlockQ] at h4 ⊢
    split <;> rename_i hid
    · rw [if_pos hid] at h4; exact ⟨G', s', δ', σ', h1, h2, h3, h4⟩
    · rw [if_neg hid] at h4; exact ⟨G', s', δ', σ', h1, h2, h3, h4⟩
  | normal => exact ⟨G', s', δ', σ', h1, h2, h3, h4⟩
  | goto l => exact ⟨G', s', δ', σ', h1, h2, h3, h4⟩
  | ret => exact ⟨G', s', δ', σ', h1, h2, h3, h4⟩
  | panic ch => exact ⟨G', s', δ', σ', h1, h2, h3, h4⟩
  | outgrown => exact ⟨G', s', δ', σ', h1, h2, h3, h4⟩

theorem wp_loop_rel {c : Code} {Q : Exit → Act → World → Prop} {a : Act} {w : World} (I : Nat → Act → World → Prop) (n : Nat) (h₀ : I n a w)
    (round : ∀ n a w, I n a w → c.wp P (Exit.then (fun a' w' => ∃ m, m < n ∧ I m a' w') Q) a w) : (Code.loop c).wp P Q a w := by
  intro b k cs
  have key : ∀ n a w, I n a w →
      ∃ e a' w', Q e a' w' ∧ Arrives P (lone (b.at a (.code c :: .inLoop c :: k)) cs w) b k cs e a' w' := by
    intro n
    induction n using Nat.strongRecOn with
    | _ n ih =>
      intro a w hI
      obtain ⟨e, a₁, w₁, hq, harr⟩ := round n a w hI b (.inLoop c :: k) cs
      cases e with
      | normal =>
        obtain ⟨m, hlt, hI₁⟩ := hq
        obtain ⟨e₂, a₂, w₂, hq₂, harr₂⟩ := ih m hlt a₁ w₁ hI₁
        exact ⟨e₂, a₂, w₂, hq₂, .of_steps (Steps.trans harr (.one step_inLoop)) harr₂⟩
      | exit id => exact ⟨_, a₁, w₁, hq, .pass (x := .inLoop c) rfl (fun _ _ => .inl (by simp)) harr⟩
      | goto l => exact ⟨_, a₁, w₁, hq, .pass (x := .inLoop c) rfl (fun _ _ => .inl (by simp)) harr⟩
      | ret => exact ⟨_, a₁, w₁, hq, .pass (x := .inLoop c) rfl (fun _ _ => .inl (by simp)) harr⟩
      | panic ch => exact ⟨_, a₁, w₁, hq, .pass (x := .inLoop c) rfl (fun _ _ => .inl (by simp)) harr⟩
      | outgrown => exact ⟨_, a₁, w₁, hq, .pass (x := .inLoop c) rfl (fun _ _ => .inl (by simp)) harr⟩
  obtain ⟨e, a', w', hq, harr⟩ := key _ a w h₀
  exact ⟨e, a', w', hq, .of_steps (.one step_loop) harr⟩

/-- A loop: what holds of the state at every round's head, with a number that each round lowers. -/
theorem sw_loop {c : Code} (I : Nat → Slots → Defs → List Chunk → Prop) (n : Nat) (h₀ : I n s δ σ)
    (round : ∀ n s δ σ, I n s δ σ → SW P c (thenQ (fun s' δ' σ' => ∃ m, m < n ∧ I m s' δ' σ') Q) s δ σ) : SW P (.loop c) Q s δ σ := fun G a w hi hr => by
  refine wp_loop_rel (fun n a w => ∃ G' s δ σ, G.le G' ∧ Inv G' σ w ∧ RelA G' s δ a ∧ I n s δ σ) n ⟨G, s, δ, σ, G.le_refl, hi, hr, h₀⟩ ?_
  rintro n a w ⟨G', s, δ, σ, hle, hi, hr, hI⟩
  refine wp_mono (round n s δ σ hI G' a w hi hr) fun e a' w' ⟨G'', s', δ', σ', h1, h2, h3, h4⟩ => ?_
  cases e with
  | normal => obtain ⟨m, hm, hI'⟩ := h4; exact ⟨m, hm, G'', s', δ', σ', hle.trans h1, h2, h3, hI'⟩
  | exit id => exact ⟨G'', s', δ', σ', hle.trans h1, h2, h3, h4⟩
  | goto l => exact ⟨G'', s', δ', σ', hle.trans h1, h2, h3, h4⟩
  | ret => exact ⟨G'', s', δ', σ', hle.trans h1, h2, h3, h4⟩
  | panic ch => exact ⟨G'', s', δ', σ', hle.trans h1, h2, h3, h4⟩
  | outgrown => exact ⟨G'', s', δ', σ', hle.trans h1, h2, h3, h4⟩

/-! ### Weakening the state -/

theorem RelA.weak {G : Gh} {s s' : Slots} {δ : Defs} {a : Act} (r : RelA G s δ a) (h : SWk s s') : RelA G s' δ a :=
  ⟨r.size.trans h.n, fun k hk => h.l.get k _ _ (r.slot k (by rw [h.n]; exact hk)), r.defs, r.defd⟩

theorem sw_weak {c : Code} {s' : Slots} (hw : SWk s s') (h : SW P c Q s' δ σ) : SW P c Q s δ σ := fun G a w hi hr => h G a w hi (hr.weak hw)
theorem sw_perm {c : Code} {σ' : List Chunk} (hp : σ.Perm σ') (h : SW P c Q s δ σ') : SW P c Q s δ σ := fun G a w hi hr => h G a w (hi.perm hp) hr
theorem sw_sub {c : Code} {σ' : List Chunk} (hp : σ'.Sublist σ) (h : SW P c Q s δ σ') : SW P c Q s δ σ := fun G a w hi hr => h G a w (hi.sub hp) hr

end rules

/-! ### Calls -/

/-- A call of function f with arguments that read as ds, these blocks owned: it returns what R tells, or panics as Rp tells. -/
def FSpecP (P : Program) (f : FuncId) (ds : List D) (σ : List Chunk) (R : D → List Chunk → Prop) (Rp : List PanicEntry → List Chunk → Prop) : Prop :=
  ∀ G vs w, Inv G σ w → RepDs G.C vs ds → Calls P f vs w fun
    | .returned v, w' => ∃ G' d σ', G.le G' ∧ Inv G' σ' w' ∧ RepD G'.C v d ∧ R d σ'
    | .panicked ch, w' => ∃ G' σ', G.le G' ∧ Inv G' σ' w' ∧ Rp ch σ'
    | .outgrown, _ => False

def FSpec (P : Program) (f : FuncId) (ds : List D) (σ : List Chunk) (R : D → List Chunk → Prop) : Prop := FSpecP P f ds σ R fun _ _ => False

theorem FSpecP.mono {P : Program} {f : FuncId} {ds : List D} {σ : List Chunk} {R R' : D → List Chunk → Prop} {Rp Rp' : List PanicEntry → List Chunk → Prop}
    (h : FSpecP P f ds σ R Rp) (hR : ∀ d σ, R d σ → R' d σ) (hp : ∀ c σ, Rp c σ → Rp' c σ) : FSpecP P f ds σ R' Rp' := fun G vs w hi hr =>
  (h G vs w hi hr).mono fun e w' he => by
    cases e with
    | returned v => obtain ⟨G', d, σ', h1, h2, h3, h4⟩ := he; exact ⟨G', d, σ', h1, h2, h3, hR _ _ h4⟩
    | panicked ch => obtain ⟨G', σ', h1, h2, h3⟩ := he; exact ⟨G', σ', h1, h2, hp _ _ h3⟩
    | outgrown => exact he

theorem FSpec.mono {P : Program} {f : FuncId} {ds : List D} {σ : List Chunk} {R R' : D → List Chunk → Prop}
    (h : FSpec P f ds σ R) (hR : ∀ d σ, R d σ → R' d σ) : FSpec P f ds σ R' := FSpecP.mono h hR fun _ _ h => h

theorem FSpecP.perm {P : Program} {f : FuncId} {ds : List D} {σ σ' : List Chunk} {R : D → List Chunk → Prop} {Rp : List PanicEntry → List Chunk → Prop}
    (hp : σ.Perm σ') (h : FSpecP P f ds σ' R Rp) : FSpecP P f ds σ R Rp := fun G vs w hi hr => h G vs w (hi.perm hp) hr

/-- The results of a function whose results are slots, or cells whose blocks are owned. -/
def ResD (P : Program) (fn : Func) (s : Slots) (σ : List Chunk) (d : D) : Prop :=
  ∀ G a w, Inv G σ w → (∃ δ, RelA G s δ a) → ∃ v, (results fn a.tmps).run P w = .ok v w ∧ RepD G.C v d

/-- What is owned, in another order, and less of it. -/
def SubP (σ' σ : List Chunk) : Prop := ∃ τ, σ.Perm τ ∧ σ'.Sublist τ

theorem SubP.refl (σ : List Chunk) : SubP σ σ := ⟨σ, .refl _, .refl _⟩
theorem SubP.none (σ : List Chunk) : SubP [] σ := ⟨σ, .refl _, List.nil_sublist _⟩
theorem SubP.drop {c : Chunk} {σ σ' : List Chunk} (h : SubP σ' σ) : SubP σ' (c :: σ) := by
  obtain ⟨τ, h1, h2⟩ := h
  exact ⟨c :: τ, h1.cons c, h2.cons c⟩
theorem SubP.p0 {c : Chunk} {σ σ' : List Chunk} (h : SubP σ' σ) : SubP (c :: σ') (c :: σ) := by
  obtain ⟨τ, h1, h2⟩ := h
  exact ⟨c :: τ, h1.cons c, h2.cons_cons c⟩
theorem SubP.of_perm {σ σ' τ : List Chunk} (p : σ.Perm τ) (h : SubP σ' τ) : SubP σ' σ := by
  obtain ⟨τ', h1, h2⟩ := h
  exact ⟨τ', p.trans h1, h2⟩
theorem SubP.p1 {c x : Chunk} {σ σ' : List Chunk} (h : SubP σ' (x :: σ)) : SubP (c :: σ') (x :: c :: σ) := .of_perm (.swap _ _ _) h.p0
theorem SubP.p2 {c x y : Chunk} {σ σ' : List Chunk} (h : SubP σ' (x :: y :: σ)) : SubP (c :: σ') (x :: y :: c :: σ) := .of_perm ((List.Perm.swap _ _ _).cons _) h.p1
theorem SubP.p3 {c x y z : Chunk} {σ σ' : List Chunk} (h : SubP σ' (x :: y :: z :: σ)) : SubP (c :: σ') (x :: y :: z :: c :: σ) := .of_perm (((List.Perm.swap _ _ _).cons _).cons _) h.p2
theorem SubP.p4 {c x y z u : Chunk} {σ σ' : List Chunk} (h : SubP σ' (x :: y :: z :: u :: σ)) : SubP (c :: σ') (x :: y :: z :: u :: c :: σ) := .of_perm ((((List.Perm.swap _ _ _).cons _).cons _).cons _) h.p3
theorem SubP.p5 {c x y z u v : Chunk} {σ σ' : List Chunk} (h : SubP σ' (x :: y :: z :: u :: v :: σ)) : SubP (c :: σ') (x :: y :: z :: u :: v :: c :: σ) := .of_perm (((((List.Perm.swap _ _ _).cons _).cons _).cons _).cons _) h.p4
theorem SubP.p6 {c x y z u v w : Chunk} {σ σ' : List Chunk} (h : SubP σ' (x :: y :: z :: u :: v :: w :: σ)) : SubP (c :: σ') (x :: y :: z :: u :: v :: w :: c :: σ) := .of_perm ((((((List.Perm.swap _ _ _).cons _).cons _).cons _).cons _).cons _) h.p5

inductive Sub : List Chunk → List Chunk → Prop
  | refl (σ : List Chunk) : Sub σ σ
  | none (σ : List Chunk) : Sub [] σ
  | p0 {c : Chunk} {σ σ' : List Chunk} (h : Sub σ' σ) : Sub (c :: σ') (c :: σ)
  | p1 {c x : Chunk} {σ σ' : List Chunk} (h : Sub σ' (x :: σ)) : Sub (c :: σ') (x :: c :: σ)
  | p2 {c x y : Chunk} {σ σ' : List Chunk} (h : Sub σ' (x :: y :: σ)) : Sub (c :: σ') (x :: y :: c :: σ)
  | p3 {c x y z : Chunk} {σ σ' : List Chunk} (h : Sub σ' (x :: y :: z :: σ)) : Sub (c :: σ') (x :: y :: z :: c :: σ)
  | p4 {c x y z u : Chunk} {σ σ' : List Chunk} (h : Sub σ' (x :: y :: z :: u :: σ)) : Sub (c :: σ') (x :: y :: z :: u :: c :: σ)
  | p5 {c x y z u v : Chunk} {σ σ' : List Chunk} (h : Sub σ' (x :: y :: z :: u :: v :: σ)) : Sub (c :: σ') (x :: y :: z :: u :: v :: c :: σ)
  | p6 {c x y z u v w : Chunk} {σ σ' : List Chunk} (h : Sub σ' (x :: y :: z :: u :: v :: w :: σ)) : Sub (c :: σ') (x :: y :: z :: u :: v :: w :: c :: σ)
  | drop {c : Chunk} {σ σ' : List Chunk} (h : Sub σ' σ) : Sub σ' (c :: σ)

theorem Sub.ex {σ' σ : List Chunk} (h : Sub σ' σ) : SubP σ' σ := by
  induction h with
  | refl σ => exact .refl _
  | none σ => exact .none _
  | p0 _ ih => exact ih.p0
  | p1 _ ih => exact ih.p1
  | p2 _ ih => exact ih.p2
  | p3 _ ih => exact ih.p3
  | p4 _ ih => exact ih.p4
  | p5 _ ih => exact ih.p5
  | p6 _ ih => exact ih.p6
  | drop _ ih => exact ih.drop

theorem Inv.less {G : Gh} {σ σ' : List Chunk} {w : World} (h : Inv G σ w) (p : Sub σ' σ) : Inv G σ' w := by
  obtain ⟨τ, h1, h2⟩ := p.ex
  exact (h.perm h1).sub h2

/-- One of those that are owned, and the others. -/
inductive Pick (c : Chunk) : List Chunk → List Chunk → Prop
  | head {σ : List Chunk} : Pick c (c :: σ) σ
  | tail {x : Chunk} {σ σ' : List Chunk} (h : Pick c σ σ') : Pick c (x :: σ) (x :: σ')

theorem Pick.perm {c : Chunk} {σ σ' : List Chunk} (h : Pick c σ σ') : σ.Perm (c :: σ') := by
  induction h with
  | head => exact .refl _
  | tail _ ih => exact (ih.cons _).trans (.swap _ _ _)

theorem Inv.pick {G : Gh} {c : Chunk} {σ σ' : List Chunk} {w : World} (h : Inv G σ w) (p : Pick c σ σ') : Inv G (c :: σ') w := h.perm p.perm

def bodyQ (P : Program) (fn : Func) (R : D → List Chunk → Prop) (Rp : List PanicEntry → List Chunk → Prop) : Post
  | .normal, s, δ, σ | .ret, s, δ, σ => δ = [] ∧ ∃ d σ', ResD P fn s σ d ∧ Sub σ' σ ∧ R d σ'
  | .panic ch, _, δ, σ => δ = [] ∧ ∃ σ', Sub σ' σ ∧ Rp ch σ'
  | _, _, _, _ => False

theorem defs_nil {G : Gh} {s : Slots} {a : Act} (r : RelA G s [] a) : a.defers = [] := List.eq_nil_of_length_eq_zero (by simpa using r.defs)

noncomputable def argS : List D → Nat → SlotL := List.rec (fun _ => .nil) fun d _ ih i => .cons i d (ih (i + 1))

theorem look_argS : ∀ (ds : List D) (i k : Nat), look (argS ds i) k = if i ≤ k then ds[k - i]? else none
  | [], i, k => by simp [argS, look]
  | d :: ds, i, k => by
    show look (.cons i d (argS ds (i + 1))) k = _
    rw [look_cons, look_argS ds (i + 1) k]
    by_cases h : i = k
    · subst h; simp
    · rw [if_neg h]
      by_cases h1 : i ≤ k
      · rw [if_pos h1, if_pos (by omega), show k - i = (k - (i + 1)) + 1 by omega, List.getElem?_cons_succ]
      · rw [if_neg h1, if_neg (by omega)]

/-- A contract out of the body's triple. -/
theorem spec_of_sw {P : Program} {f : FuncId} {fn : Func} {c : Code} {ds : List D} {σ : List Chunk} {R : D → List Chunk → Prop} {Rp : List PanicEntry → List Chunk → Prop}
    (hf : P.funcs[f]? = some fn) (hb : fn.body = some c)
    (h : SW P c (bodyQ P fn R Rp) ⟨ds.length + (fn.ntmps - ds.length), argS ds 0⟩ [] σ) : FSpecP P f ds σ R Rp := fun G vs w hi hr => by
  refine calls_of_wp hf hb ?_
  have hrel : RelA G ⟨ds.length + (fn.ntmps - ds.length), argS ds 0⟩ [] { tmps := vs ++ Array.replicate (fn.ntmps - vs.size) undef, defers := [] } := by
    refine ⟨by simp [hr.1], fun k hk => ?_, rfl, fun k hk => absurd hk (by simp)⟩
    show RepD G.C _ (orJunk (look (argS ds 0) k))
    rw [look_argS, if_pos (Nat.zero_le _), Nat.sub_zero]
    by_cases h1 : k < ds.length
    · rw [List.getElem?_eq_getElem h1]
      have := hr.2 k h1
      have h2 : k < vs.size := by rw [hr.1]; exact h1
      simp only [Array.getD_eq_getD_getElem?, Array.getElem?_append_left h2]
      show RepD G.C _ ds[k]
      simpa only [Array.getD_eq_getD_getElem?] using this
    · rw [List.getElem?_eq_none (Nat.le_of_not_lt h1)]; exact .junk _
  refine wp_mono (h G _ w hi hrel) fun e a' w' ⟨G', s', δ', σ', h1, h2, h3, h4⟩ => ?_
  cases e with
  | normal =>
    obtain ⟨rfl, d, σ'', hd, hsub, hR⟩ := h4
    obtain ⟨v, hv, hrep⟩ := hd G' a' w' h2 ⟨_, h3⟩
    exact ⟨defs_nil h3, v, hv, G', d, σ'', h1, h2.less hsub, hrep, hR⟩
  | ret =>
    obtain ⟨rfl, d, σ'', hd, hsub, hR⟩ := h4
    obtain ⟨v, hv, hrep⟩ := hd G' a' w' h2 ⟨_, h3⟩
    exact ⟨defs_nil h3, v, hv, G', d, σ'', h1, h2.less hsub, hrep, hR⟩
  | panic ch => obtain ⟨rfl, σ'', hsub, hR⟩ := h4; exact ⟨defs_nil h3, G', σ'', h1, h2.less hsub, hR⟩
  | exit id => exact h4.elim
  | goto l => exact h4.elim
  | outgrown => exact h4.elim

theorem sw_less {P : Program} {Q : Post} {s : Slots} {δ : Defs} {σ σ' : List Chunk} {c : Code} (hp : Sub σ' σ) (h : SW P c Q s δ σ') : SW P c Q s δ σ := fun G a w hi hr => h G a w (hi.less hp) hr

theorem ResD.weak {P : Program} {fn : Func} {s : Slots} {σ : List Chunk} {d d' : D} (h : ResD P fn s σ d) (hw : Weak d d') : ResD P fn s σ d' := fun G a w hi hr => by
  obtain ⟨v, h1, h2⟩ := h G a w hi hr
  exact ⟨v, h1, hw _ _ h2⟩

theorem res_none {P : Program} {fn : Func} {s : Slots} {σ : List Chunk} (h : fn.results = #[]) : ResD P fn s σ (.tup []) := fun G a w _ _ =>
  ⟨_, results_none h a.tmps P w, .tup #[] [] rfl (fun k hk => absurd hk (by simp))⟩

theorem res_one {P : Program} {fn : Func} {s : Slots} {σ : List Chunk} {t : Tmp} {d : D} (h : fn.results = #[.tmp t]) (hd : evalO s (.tmp t) = d) : ResD P fn s σ d := fun G a w _ ⟨_, r⟩ =>
  ⟨_, results_tmp h a.tmps P w, by rw [← hd]; exact r.eval (.tmp t)⟩

theorem results_tmps {fn : Func} {ts : List Tmp} (h : fn.results.toList = ts.map .tmp) (hn : ts.length ≠ 1) (tmps : Array Value) (P : Program) (w : World) :
    (results fn tmps).run P w = .ok (.tuple (ts.map fun t => tmps.getD t undef).toArray) w := by
  have hr : fn.results = (ts.map ResultVar.tmp).toArray := by rw [← h]
  have key : ∀ (f : ResultVar → Sem Value), (∀ t, f (.tmp t) = pure (tmps.getD t undef)) → ∀ (l : List Tmp), (l.map ResultVar.tmp).mapM f =
      (pure (l.map fun t => tmps.getD t undef) : Sem (List Value)) := by
    intro f hf l
    induction l with
    | nil => rfl
    | cons t l ih => simp only [List.map_cons, List.mapM_cons, ih, hf, pure_bind]
  unfold results
  rw [hr, List.mapM_toArray, key _ (fun t => rfl), map_pure, pure_bind]
  have : ¬ ((ts.map fun t => tmps.getD t undef).toArray.size = 1) := by simpa using hn
  rw [dif_neg this]; rfl

theorem res_many {P : Program} {fn : Func} {s : Slots} {σ : List Chunk} {ts : List Tmp} {ds : List D} (h : fn.results.toList = ts.map .tmp) (hn : ts.length ≠ 1)
    (hd : ts.map (fun t => evalO s (.tmp t)) = ds) : ResD P fn s σ (.tup ds) := fun G a w _ ⟨_, r⟩ => by
  refine ⟨_, results_tmps h hn a.tmps P w, ?_⟩
  subst hd
  refine .tup _ _ (by simp) (fun k hk => ?_)
  simp only [List.length_map] at hk
  have h1 : (ts.map fun t => a.tmps.getD t undef).toArray.getD k undef = a.tmps.getD ts[k] undef := by
    simp [hk]
  rw [h1, List.getElem_map]
  exact r.eval (.tmp ts[k])

end Go.Proofs.YtlolmemiedhhhaaDoor.SL

/- The program logic, third part: a region's operations, one rule for each kind. -/
namespace Go.Proofs.YtlolmemiedhhhaaDoor.SL
set_option linter.unusedVariables false
set_option linter.unusedSimpArgs false
open Go Go.RowKit

/-- A list of operations that are still to do, begun in this state, ends as Q says. -/
def SL (P : Program) (ops : Array Oper) (l : List Oper) (Q : Post) (s : Slots) (δ : Defs) (σ : List Chunk) : Prop :=
  ∀ G a w, Inv G σ w → RelA G s δ a → wpList P ops (Lift G Q) l a w

theorem LetsOut.mono {Q Q' : Exit → Act → World → Prop} (h : ∀ e a w, Q e a w → Q' e a w) (l : LetsOut Q) : LetsOut Q' := by
  obtain ⟨a, w, q⟩ := l; exact ⟨a, w, h _ _ _ q⟩

theorem Oper.wp_mono2 {P : Program} {o : Oper} {a : Act} {w : World} {K K' : Act → World → Prop} {Q Q' : Exit → Act → World → Prop} (h : ∀ a w, K a w → K' a w)
    (hq : ∀ e a w, Q e a w → Q' e a w) (hh : o.wp P a w K Q) : o.wp P a w K' Q' := by
  unfold Oper.wp at *
  generalize (execOp a.eval o).run P w = r at *
  cases r with
  | ok n w' =>
    cases n <;> simp only [Oper.upon] at hh ⊢ <;>
      first
        | exact h _ _ hh
        | exact Calls.mono hh (fun e w'' he => by cases e <;> first | exact h _ _ he | exact hq _ _ _ he | exact LetsOut.mono hq he)
        | exact Rows.mono hh (fun _ _ he => h _ _ he)
  | halt x w' => cases x <;> simp only [Oper.upon] at hh ⊢ <;> exact hq _ _ _ hh

theorem wpList_mono {P : Program} {ops : Array Oper} {Q Q' : Exit → Act → World → Prop} (hq : ∀ e a w, Q e a w → Q' e a w) :
    ∀ (l : List Oper) (a : Act) (w : World), wpList P ops Q l a w → wpList P ops Q' l a w
  | [], a, w, h => hq _ _ _ h
  | o :: rest, a, w, h => by
    unfold wpList at h ⊢
    split at h <;> rename_i hw
    · rw [if_pos hw]
      rcases h with h | ⟨h1, h2⟩
      · exact .inl (Oper.wp_mono2 (wpList_mono hq rest) hq h)
      · exact .inr ⟨h1, LetsOut.mono hq h2⟩
    · rw [if_neg hw]; exact wpList_mono hq rest _ _ h

section rules
variable {P : Program} {ops : Array Oper} {Q : Post} {s : Slots} {δ : Defs} {σ : List Chunk} {o : Oper} {rest : List Oper}

theorem sl_region {id : Nat} {l : List Oper} (h : SL P l.toArray l Q s δ σ) : SW P (.region id l.toArray false) Q s δ σ := fun G a w hi hr =>
  wp_region_lit (h G a w hi hr)

theorem sl_nil (h : Q .normal s δ σ) : SL P ops [] Q s δ σ := fun G a w hi hr => wpList_nil ⟨G, s, δ, σ, G.le_refl, hi, hr, h⟩

theorem sl_weak {s' : Slots} (hw : SWk s s') (h : SL P ops rest Q s' δ σ) : SL P ops rest Q s δ σ := fun G a w hi hr => h G a w hi (hr.weak hw)
theorem sl_perm {σ' : List Chunk} (hp : σ.Perm σ') (h : SL P ops rest Q s δ σ') : SL P ops rest Q s δ σ := fun G a w hi hr => h G a w (hi.perm hp) hr
theorem sl_sub {σ' : List Chunk} (hp : σ'.Sublist σ) (h : SL P ops rest Q s δ σ') : SL P ops rest Q s δ σ := fun G a w hi hr => h G a w (hi.sub hp) hr

theorem SL.use {G G' : Gh} (hle : G.le G') (h : SL P ops rest Q s δ σ) {a : Act} {w : World} (hi : Inv G' σ w) (hr : RelA G' s δ a) : wpList P ops (Lift G Q) rest a w :=
  wpList_mono (fun _ _ _ l => l.mono hle) _ _ _ (h G' a w hi hr)

/-- An operation that leaves a value. -/
theorem sl_op (hg : o.guard = none) (H : ∀ G a w, Inv G σ w → RelA G s δ a → ∃ v w' G' d σ', (execOp a.eval o).run P w = .ok (.value v) w' ∧ G.le G' ∧ Inv G' σ' w' ∧
      RepD G'.C v d ∧ SL P ops rest Q (sput s o.dst d) δ σ') : SL P ops (o :: rest) Q s δ σ := fun G a w hi hr => by
  obtain ⟨v, w', G', d, σ', h1, h2, h3, h4, h5⟩ := H G a w hi hr
  refine wpList_plain hg fun K hK => ?_
  unfold Oper.wp
  rw [h1, Oper.upon_value]
  exact hK _ _ (h5.use h2 h3 ((hr.mono h2).put o.dst h4))

/-- An operation that leaves nothing. -/
theorem sl_skip (hg : o.guard = none) (H : ∀ G a w, Inv G σ w → RelA G s δ a → ∃ w' G' σ', (execOp a.eval o).run P w = .ok .skip w' ∧ G.le G' ∧ Inv G' σ' w' ∧
      SL P ops rest Q (sput s o.dst .junk) δ σ') : SL P ops (o :: rest) Q s δ σ := fun G a w hi hr => by
  obtain ⟨w', G', σ', h1, h2, h3, h5⟩ := H G a w hi hr
  refine wpList_plain hg fun K hK => ?_
  unfold Oper.wp
  rw [h1, Oper.upon_skip]
  exact hK _ _ (h5.use h2 h3 ((hr.mono h2).put o.dst (.junk _)))

/-- A pure operation: the value is told by the state alone. -/
theorem sl_pure (hg : o.guard = none) {d : D} (H : ∀ G a w, Inv G σ w → RelA G s δ a → ∃ v, (execOp a.eval o).run P w = .ok (.value v) w ∧ RepD G.C v d)
    (k : SL P ops rest Q (sput s o.dst d) δ σ) : SL P ops (o :: rest) Q s δ σ :=
  sl_op hg fun G a w hi hr => by
    obtain ⟨v, h1, h2⟩ := H G a w hi hr
    exact ⟨v, w, G, d, σ, h1, G.le_refl, hi, h2, k⟩

theorem rep_undef (C : Imm) : RepD C undef (.tup []) := .tup #[] [] rfl (fun k hk => absurd hk (by simp))

/-- An operation under a guard. -/
theorem sl_guard {j : Nat} {want b : Bool} {t : Tmp} (hg : o.guard = some (j, want)) (hj : (ops[j]?).bind (·.dst) = some t) (hb : evalO s (.tmp t) = .val (.bool b))
    (hy : b = want → SL P ops ({ o with guard := none } :: rest) Q s δ σ) (hn : b ≠ want → SL P ops rest Q (sput s o.dst (.tup [])) δ σ) : SL P ops (o :: rest) Q s δ σ := fun G a w hi hr => by
  have he := evalO_bool hr hb
  have hyd : yielded ops a.tmps j = some b := by
    unfold yielded
    simp only [hj, Option.bind_some]
    simp only [Act.eval] at he
    have : t < a.tmps.size := by
      rcases Nat.lt_or_ge t a.tmps.size with h | h
      · exact h
      · simp [h, undef] at he
    rw [Array.getElem?_eq_getElem this]
    simp only [Array.getD_eq_getD_getElem?, Array.getElem?_eq_getElem this, Option.getD_some] at he
    rw [he]
  by_cases hw : b = want
  · have h1 := hy hw G a w hi hr
    unfold wpList at h1 ⊢
    rw [if_pos (by simp [Region.wanted])] at h1
    rw [if_pos (by simp [Region.wanted, hg, hyd, hw])]
    exact h1
  · have h1 := hn hw G _ w hi (hr.put o.dst (rep_undef G.C))
    unfold wpList
    rw [if_neg (by simp [Region.wanted, hg, hyd, hw])]
    exact h1

/-! ### Copies, choices -/

theorem sl_move {x : Operand} (hg : o.guard = none) (ho : o.op = .move x) (k : SL P ops rest Q (sput s o.dst (evalO s x)) δ σ) : SL P ops (o :: rest) Q s δ σ :=
  sl_pure hg (fun G a w hi hr => ⟨a.eval x, by simp only [execOp, ho]; rfl, hr.eval x⟩) k

theorem sl_assign {x : Operand} (hg : o.guard = none) (ho : o.op = .assign x) (k : SL P ops rest Q (sput s o.dst (evalO s x)) δ σ) : SL P ops (o :: rest) Q s δ σ :=
  sl_pure hg (fun G a w hi hr => ⟨a.eval x, by simp only [execOp, ho]; rfl, hr.eval x⟩) k

theorem sl_pick {c x y : Operand} {b : Bool} (hg : o.guard = none) (ho : o.op = .pick c x y) (hb : evalO s c = .val (.bool b))
    (k : SL P ops rest Q (sput s o.dst (if b then evalO s x else evalO s y)) δ σ) : SL P ops (o :: rest) Q s δ σ :=
  sl_pure hg (fun G a w hi hr => ⟨if b then a.eval x else a.eval y, by
    have := evalO_bool hr hb
    simp [execOp, ho, this, asBool], by
    cases b
    · exact hr.eval y
    · exact hr.eval x⟩) k

theorem rep_int {C : Imm} {v : Value} {k : IntKind} {n : Int} (r : RepD C v (.val (.int k n))) : v = .int k n := by
  cases r with
  | val _ _ h => cases h; rfl

theorem rep_bool {C : Imm} {v : Value} {b : Bool} (r : RepD C v (.val (.bool b))) : v = .bool b := by
  cases r with
  | val _ _ h => cases h; rfl

theorem rep_str {C : Imm} {v : Value} {l : List UInt8} (r : RepD C v (.val (.str l))) : ∃ t : ByteArray, v = .string t ∧ t.data.toList = l := by
  cases r with
  | val _ _ h => cases h with | str t => exact ⟨t, rfl, rfl⟩

theorem rep_ptr {C : Imm} {v : Value} {b o : Nat} (r : RepD C v (.ptr b o)) : v = .pointer (some ⟨b, o, none⟩) := by
  cases r; rfl

theorem rep_sl {C : Imm} {v : Value} {b o n c : Nat} (r : RepD C v (.sl b o n c)) : v = .slice (some ⟨b, o, none⟩) n c := by
  cases r; rfl

/-! ### Numbers -/

/-- What an operator makes of two numbers (no division, no shift). -/
def binI (op : BinOp) (k : IntKind) (x y : Int) : Option V :=
  match op with
  | .add => some (.int k (k.wrap (x + y)))
  | .sub => some (.int k (k.wrap (x - y)))
  | .mul => some (.int k (k.wrap (x * y)))
  | .and => some (.int k (k.wrap (BitVec.ofInt k.bits x &&& BitVec.ofInt k.bits y).toNat))
  | .or => some (.int k (k.wrap (BitVec.ofInt k.bits x ||| BitVec.ofInt k.bits y).toNat))
  | .xor => some (.int k (k.wrap (BitVec.ofInt k.bits x ^^^ BitVec.ofInt k.bits y).toNat))
  | .andNot => some (.int k (k.wrap (BitVec.ofInt k.bits x &&& ~~~ BitVec.ofInt k.bits y).toNat))
  | .eql => some (.bool (x == y))
  | .neq => some (.bool (x != y))
  | .lss => some (.bool (decide (x < y)))
  | .leq => some (.bool (decide (x ≤ y)))
  | .gtr => some (.bool (decide (x > y)))
  | .geq => some (.bool (decide (x ≥ y)))
  | _ => none

theorem run_guard_int (P : Program) (w : World) (op : BinOp) (t : TypeId) (x y : Operand) (k k' : IntKind) (m n : Int) : (eqGuard op t x y (.int k m) (.int k' n)).run P w = .ok () w := by
  unfold eqGuard
  cases op <;> rfl

theorem rep_bin {C : Imm} {z : V} {v : Value} (h : RepV C v z) : RepD C v (.val z) := .val _ _ h

theorem sl_bin {op : BinOp} {t t' : TypeId} {x y : Operand} {k : IntKind} {m n : Int} {z : V} (hg : o.guard = none) (ho : o.op = .binOp op t x y t')
    (hx : evalO s x = .val (.int k m)) (hy : evalO s y = .val (.int k n)) (hz : binI op k m n = some z)
    (c : SL P ops rest Q (sput s o.dst (.val z)) δ σ) : SL P ops (o :: rest) Q s δ σ :=
  sl_pure hg (fun G a w hi hr => by
    have h1 := hr.eval x; rw [hx] at h1; have h1 := rep_int h1
    have h2 := hr.eval y; rw [hy] at h2; have h2 := rep_int h2
    cases op <;> simp only [binI, Option.some.injEq, reduceCtorEq] at hz <;> subst hz <;>
      refine ⟨_, ?_, rep_bin (by first | exact .int _ _ | exact .bool _)⟩ <;>
      simp [execOp, ho, h1, h2, run_guard_int, binOp, Op.intArith, Op.intBits, Op.intCmp]) c

theorem sl_div {t t' : TypeId} {x y : Operand} {k : IntKind} {m n : Int} (hg : o.guard = none) (ho : o.op = .binOp .quo t x y t')
    (hx : evalO s x = .val (.int k m)) (hy : evalO s y = .val (.int k n)) (hn : n ≠ 0)
    (c : SL P ops rest Q (sput s o.dst (.val (.int k (k.wrap (m.tdiv n))))) δ σ) : SL P ops (o :: rest) Q s δ σ :=
  sl_pure hg (fun G a w hi hr => by
    have h1 := hr.eval x; rw [hx] at h1; have h1 := rep_int h1
    have h2 := hr.eval y; rw [hy] at h2; have h2 := rep_int h2
    refine ⟨_, ?_, rep_bin (.int _ _)⟩
    simp [execOp, ho, h1, h2, run_guard_int, binOp, Op.intDiv, hn]) c

theorem sl_rem {t t' : TypeId} {x y : Operand} {k : IntKind} {m n : Int} (hg : o.guard = none) (ho : o.op = .binOp .rem t x y t')
    (hx : evalO s x = .val (.int k m)) (hy : evalO s y = .val (.int k n)) (hn : n ≠ 0)
    (c : SL P ops rest Q (sput s o.dst (.val (.int k (m.tmod n)))) δ σ) : SL P ops (o :: rest) Q s δ σ :=
  sl_pure hg (fun G a w hi hr => by
    have h1 := hr.eval x; rw [hx] at h1; have h1 := rep_int h1
    have h2 := hr.eval y; rw [hy] at h2; have h2 := rep_int h2
    refine ⟨_, ?_, rep_bin (.int _ _)⟩
    simp [execOp, ho, h1, h2, run_guard_int, binOp, Op.intDiv, hn]) c

theorem sl_shl {t t' : TypeId} {x y : Operand} {k k' : IntKind} {m n : Int} (hg : o.guard = none) (ho : o.op = .binOp .shl t x y t')
    (hx : evalO s x = .val (.int k m)) (hy : evalO s y = .val (.int k' n)) (hn : 0 ≤ n)
    (c : SL P ops rest Q (sput s o.dst (.val (.int k (k.wrap (m * 2 ^ (min n.toNat k.bits)))))) δ σ) : SL P ops (o :: rest) Q s δ σ :=
  sl_pure hg (fun G a w hi hr => by
    have h1 := hr.eval x; rw [hx] at h1; have h1 := rep_int h1
    have h2 := hr.eval y; rw [hy] at h2; have h2 := rep_int h2
    refine ⟨_, ?_, rep_bin (.int _ _)⟩
    simp [execOp, ho, h1, h2, run_guard_int, binOp, Op.shift, show ¬ n < 0 by omega]) c

theorem sl_shr {t t' : TypeId} {x y : Operand} {k k' : IntKind} {m n : Int} (hg : o.guard = none) (ho : o.op = .binOp .shr t x y t')
    (hx : evalO s x = .val (.int k m)) (hy : evalO s y = .val (.int k' n)) (hn : 0 ≤ n)
    (c : SL P ops rest Q (sput s o.dst (.val (.int k (m.fdiv (2 ^ (min n.toNat k.bits)))))) δ σ) : SL P ops (o :: rest) Q s δ σ :=
  sl_pure hg (fun G a w hi hr => by
    have h1 := hr.eval x; rw [hx] at h1; have h1 := rep_int h1
    have h2 := hr.eval y; rw [hy] at h2; have h2 := rep_int h2
    refine ⟨_, ?_, rep_bin (.int _ _)⟩
    simp [execOp, ho, h1, h2, run_guard_int, binOp, Op.shift, show ¬ n < 0 by omega]) c

theorem sl_neg {t : TypeId} {x : Operand} {k : IntKind} {m : Int} (hg : o.guard = none) (ho : o.op = .unOp .neg t x) (hx : evalO s x = .val (.int k m))
    (c : SL P ops rest Q (sput s o.dst (.val (.int k (k.wrap (0 - m))))) δ σ) : SL P ops (o :: rest) Q s δ σ :=
  sl_pure hg (fun G a w hi hr => by
    have h1 := hr.eval x; rw [hx] at h1; have h1 := rep_int h1
    refine ⟨_, ?_, rep_bin (.int _ _)⟩
    simp [execOp, ho, h1, Op.unary, Op.intArith]) c

theorem sl_not {t : TypeId} {x : Operand} {b : Bool} (hg : o.guard = none) (ho : o.op = .unOp .not t x) (hx : evalO s x = .val (.bool b))
    (c : SL P ops rest Q (sput s o.dst (.val (.bool (!b)))) δ σ) : SL P ops (o :: rest) Q s δ σ :=
  sl_pure hg (fun G a w hi hr => by
    have h1 := hr.eval x; rw [hx] at h1; have h1 := rep_bool h1
    refine ⟨_, ?_, rep_bin (.bool _)⟩
    simp [execOp, ho, h1, Op.unary]) c

theorem sl_conv_int {t t' : TypeId} {x : Operand} {k k' : IntKind} {m : Int} (hg : o.guard = none) (ho : o.op = .convert t t' x) (hx : evalO s x = .val (.int k m))
    (ht : (P.underlying t).isSome = true) (ht' : P.underlying t' = some (.int k'))
    (c : SL P ops rest Q (sput s o.dst (.val (.int k' (k'.wrap m)))) δ σ) : SL P ops (o :: rest) Q s δ σ :=
  sl_pure hg (fun G a w hi hr => by
    have h1 := hr.eval x; rw [hx] at h1; have h1 := rep_int h1
    obtain ⟨d, hd⟩ := Option.isSome_iff_exists.mp ht
    refine ⟨_, ?_, rep_bin (.int _ _)⟩
    simp only [execOp, ho, h1, convert, underlying, Sem.run_bind, run_program, Result.andThen_ok, hd, ht', Sem.run_pure]
    cases d <;> simp [Conv.intToInt]) c

/-! ### Truths, texts, nothing -/

theorem run_guard_bool (P : Program) (w : World) (op : BinOp) (t : TypeId) (x y : Operand) (m n : Bool) : (eqGuard op t x y (.bool m) (.bool n)).run P w = .ok () w := by
  unfold eqGuard
  cases op <;> rfl

theorem run_guard_str (P : Program) (w : World) (op : BinOp) (t : TypeId) (x y : Operand) (m n : ByteArray) : (eqGuard op t x y (.string m) (.string n)).run P w = .ok () w := by
  unfold eqGuard
  cases op <;> rfl

theorem run_eql_bool (P : Program) (w : World) (t : TypeId) (m n : Bool) (ht : P.underlying t = some .bool) : (binOp .eql t (.bool m) (.bool n)).run P w = .ok (.bool (m == n)) w := by
  simp only [binOp, Sem.run_bind, run_equal_bool w t m n ht, Result.andThen_ok, Sem.run_pure]

theorem run_neq_bool (P : Program) (w : World) (t : TypeId) (m n : Bool) (ht : P.underlying t = some .bool) : (binOp .neq t (.bool m) (.bool n)).run P w = .ok (.bool (!(m == n))) w := by
  simp only [binOp, Sem.run_bind, run_equal_bool w t m n ht, Result.andThen_ok, Sem.run_pure]

theorem run_execBin {ρ : Operand → Value} {op : BinOp} {t t' : TypeId} {x y : Operand} (ho : o.op = .binOp op t x y t') {w : World} {v : Value}
    (h1 : (eqGuard op t x y (ρ x) (ρ y)).run P w = .ok () w) (h2 : (binOp op t (ρ x) (ρ y)).run P w = .ok v w) : (execOp ρ o).run P w = .ok (.value v) w := by
  simp only [execOp, ho, Sem.run_bind, h1, h2, Result.andThen_ok, Sem.run_pure]

theorem sl_bool_eq {t t' : TypeId} {x y : Operand} {m n : Bool} (hg : o.guard = none) (ho : o.op = .binOp .eql t x y t')
    (hx : evalO s x = .val (.bool m)) (hy : evalO s y = .val (.bool n)) (ht : P.underlying t = some .bool)
    (c : SL P ops rest Q (sput s o.dst (.val (.bool (m == n)))) δ σ) : SL P ops (o :: rest) Q s δ σ :=
  sl_pure hg (fun G a w hi hr => by
    have h1 := hr.eval x; rw [hx] at h1; have h1 := rep_bool h1
    have h2 := hr.eval y; rw [hy] at h2; have h2 := rep_bool h2
    exact ⟨_, run_execBin ho (by rw [h1, h2]; exact run_guard_bool ..) (by rw [h1, h2]; exact run_eql_bool P w t m n ht), rep_bin (.bool _)⟩) c

theorem sl_bool_ne {t t' : TypeId} {x y : Operand} {m n : Bool} (hg : o.guard = none) (ho : o.op = .binOp .neq t x y t')
    (hx : evalO s x = .val (.bool m)) (hy : evalO s y = .val (.bool n)) (ht : P.underlying t = some .bool)
    (c : SL P ops rest Q (sput s o.dst (.val (.bool (!(m == n))))) δ σ) : SL P ops (o :: rest) Q s δ σ :=
  sl_pure hg (fun G a w hi hr => by
    have h1 := hr.eval x; rw [hx] at h1; have h1 := rep_bool h1
    have h2 := hr.eval y; rw [hy] at h2; have h2 := rep_bool h2
    exact ⟨_, run_execBin ho (by rw [h1, h2]; exact run_guard_bool ..) (by rw [h1, h2]; exact run_neq_bool P w t m n ht), rep_bin (.bool _)⟩) c

theorem toList_data (t : ByteArray) : t.toList = t.data.toList := Go.ByteArray.toList_eq t

/-- What an operator makes of two texts. -/
def binS (op : BinOp) (x y : List UInt8) : Option V :=
  match op with
  | .eql => some (.bool (x == y))
  | .neq => some (.bool (!(x == y)))
  | .lss => some (.bool (Op.bytesLess x y))
  | .leq => some (.bool (Op.bytesLess x y || x == y))
  | .gtr => some (.bool (!(Op.bytesLess x y || x == y)))
  | .geq => some (.bool (!(Op.bytesLess x y)))
  | _ => none

theorem sl_str {op : BinOp} {t t' : TypeId} {x y : Operand} {m n : List UInt8} {z : V} (hg : o.guard = none) (ho : o.op = .binOp op t x y t')
    (hx : evalO s x = .val (.str m)) (hy : evalO s y = .val (.str n)) (hz : binS op m n = some z)
    (c : SL P ops rest Q (sput s o.dst (.val z)) δ σ) : SL P ops (o :: rest) Q s δ σ :=
  sl_pure hg (fun G a w hi hr => by
    have h1 := hr.eval x; rw [hx] at h1; obtain ⟨t1, e1, rfl⟩ := rep_str h1
    have h2 := hr.eval y; rw [hy] at h2; obtain ⟨t2, e2, rfl⟩ := rep_str h2
    cases op <;> simp only [binS, Option.some.injEq, reduceCtorEq] at hz <;> subst hz <;>
      exact ⟨_, run_execBin ho (by rw [e1, e2]; exact run_guard_str ..) (by rw [e1, e2]; simp only [binOp, Op.stringOp, Sem.run_pure, toList_data]), rep_bin (.bool _)⟩) c

theorem sl_str_add {t t' : TypeId} {x y : Operand} {m n : List UInt8} (hg : o.guard = none) (ho : o.op = .binOp .add t x y t')
    (hx : evalO s x = .val (.str m)) (hy : evalO s y = .val (.str n)) (hle : m.length + n.length ≤ 9223372036854775807)
    (c : SL P ops rest Q (sput s o.dst (.val (.str (m ++ n)))) δ σ) : SL P ops (o :: rest) Q s δ σ :=
  sl_pure hg (fun G a w hi hr => by
    have h1 := hr.eval x; rw [hx] at h1; obtain ⟨t1, e1, rfl⟩ := rep_str h1
    have h2 := hr.eval y; rw [hy] at h2; obtain ⟨t2, e2, rfl⟩ := rep_str h2
    refine ⟨_, run_execBin ho (by rw [e1, e2]; exact run_guard_str ..) (by rw [e1, e2]; simp only [binOp]; exact run_string_add_sum w t1 t2 (by simp only [Array.length_toList] at hle; exact hle)), rep_bin ?_⟩
    have : t1.data.toList ++ t2.data.toList = (t1 ++ t2).data.toList := by simp [ByteArray.data_append]
    rw [this]; exact .str _) c

end rules
end Go.Proofs.YtlolmemiedhhhaaDoor.SL

/- The program logic, fourth part: operations on memory. -/
namespace Go.Proofs.YtlolmemiedhhhaaDoor.SL
set_option linter.unusedVariables false
set_option linter.unusedSimpArgs false
open Go Go.RowKit

/-! ### What the type table says -/

def szOf (P : Program) (t : TypeId) : Option Nat := (P.info? t).map (·.size)
def zeroOf (P : Program) (t : TypeId) : Option Value := (P.info? t).bind (·.zero)

/-- Where a field lies; none: no such field, or one without a cell. -/
def fieldOff (P : Program) (t : TypeId) (i : Nat) : Option Nat :=
  match P.underlying t with
  | some (.struct fs) => match fs[i]? with
    | some f => match P.info? f.type with
      | some j => if j.size = 0 then none else some f.offset
      | none => none
    | none => none
  | _ => none

/-- Is it a struct or an array (some true), or one cell (some false)? -/
def aggOf (P : Program) (t : TypeId) : Option Bool :=
  match P.underlying t with
  | some (.struct _) | some (.array _ _) => some true
  | some _ => some false
  | none => none

theorem run_sizeOf {P : Program} {w : World} {t : TypeId} {n : Nat} (h : szOf P t = some n) : (sizeOf t).run P w = .ok n w := by
  unfold szOf at h
  obtain ⟨i, hi, rfl⟩ := Option.map_eq_some_iff.mp h
  simp [sizeOf, typeInfo, hi]

theorem run_zeroOf {P : Program} {w : World} {t : TypeId} {v : Value} (h : zeroOf P t = some v) : (zeroValue t).run P w = .ok v w := by
  unfold zeroOf at h
  obtain ⟨i, hi, hz⟩ := Option.bind_eq_some_iff.mp h
  simp [zeroValue, typeInfo, hi, hz]

theorem run_under {P : Program} {w : World} {t : TypeId} {d : TypeDesc} (h : P.underlying t = some d) : (underlying t).run P w = .ok d w := by
  simp [underlying, h]

theorem run_isAgg {P : Program} {w : World} {t : TypeId} {b : Bool} (h : aggOf P t = some b) : (isAgg t).run P w = .ok b w := by
  unfold aggOf at h
  unfold isAgg
  split at h
  · rename_i fs hu; cases h; simp [run_under hu]
  · rename_i n e hu; cases h; simp [run_under hu]
  · rename_i d hn1 hn2 hu
    cases h
    simp only [Sem.run_bind, run_under hu, Result.andThen_ok]
    cases d <;> first | rfl | exact absurd hu (hn1 _) | exact absurd hu (hn2 _ _)
  · cases h

theorem run_fieldAt {P : Program} {w : World} {t : TypeId} {i off : Nat} {b o : Nat} (h : fieldOff P t i = some off) :
    (Instr.fieldAt t (.pointer (some ⟨b, o, none⟩)) i).run P w = .ok (.pointer (some ⟨b, o + off, none⟩)) w := by
  unfold fieldOff at h
  split at h
  · rename_i fs hu
    split at h
    · rename_i f hf
      split at h
      · rename_i j hj
        split at h
        · cases h
        · rename_i hz
          simp only [Option.some.injEq] at h; subst h
          have hsz : szOf P f.type = some j.size := by simp [szOf, hj]
          unfold Instr.fieldAt
          simp only [Sem.run_bind, run_under hu, Result.andThen_ok, hf, Instr.sureAddr, Sem.run_pure, fieldPlace, run_sizeOf hsz, hz, if_false]
          unfold Addr.add
          split <;> rename_i h0
          · rw [h0]; rfl
          · rfl
      · cases h
    · cases h
  · cases h

theorem addr_add (b o k : Nat) : (⟨b, o, none⟩ : Addr).add k = ⟨b, o + k, none⟩ := by
  unfold Addr.add
  split <;> rename_i h
  · rw [h]; rfl
  · rfl

section rules
variable {P : Program} {ops : Array Oper} {Q : Post} {s : Slots} {δ : Defs} {σ : List Chunk} {o : Oper} {rest : List Oper}

/-! ### Places -/

theorem rep_rp {C : Imm} {v : Value} {xs : List V} (r : RepD C v (.rp xs)) : ∃ (b f : Nat) (vs : Nat → Value), v = .pointer (some ⟨b, f, none⟩) ∧ (∀ k, k < xs.length → C b (f + k) = some (vs k)) ∧
    ∀ k (hk : k < xs.length), RepV C (vs k) xs[k] := by
  cases r with
  | rp b o xs vs hC hv => exact ⟨b, o, vs, rfl, hC, hv⟩

theorem sl_fieldAddr_ptr {t : TypeId} {x : Operand} {i off b f : Nat} (hg : o.guard = none) (ho : o.op = .fieldAddr t x i) (hx : evalO s x = .ptr b f)
    (hf : fieldOff P t i = some off) (c : SL P ops rest Q (sput s o.dst (.ptr b (f + off))) δ σ) : SL P ops (o :: rest) Q s δ σ :=
  sl_pure hg (fun G a w hi hr => by
    have h1 := hr.eval x; rw [hx] at h1; have e1 := rep_ptr h1
    exact ⟨_, by simp only [execOp, ho, e1, Sem.run_bind, run_fieldAt hf, Result.andThen_ok, Sem.run_pure], .ptr _ _⟩) c

theorem rep_rp_drop {C : Imm} {b f : Nat} {vs : Nat → Value} {xs : List V} (n : Nat) (h2 : ∀ k, k < xs.length → C b (f + k) = some (vs k)) (h3 : ∀ k (hk : k < xs.length), RepV C (vs k) xs[k]) :
    RepD C (.pointer (some ⟨b, f + n, none⟩)) (.rp (xs.drop n)) :=
  .rp b (f + n) (xs.drop n) (fun k => vs (n + k)) (fun k hk => by
    have hk' : n + k < xs.length := by simp at hk; omega
    rw [Nat.add_assoc]; exact h2 _ hk') (fun k hk => by
    have hk' : n + k < xs.length := by simp at hk; omega
    simp only [List.getElem_drop]; exact h3 _ hk')

theorem sl_fieldAddr_rp {t : TypeId} {x : Operand} {i off : Nat} {xs : List V} (hg : o.guard = none) (ho : o.op = .fieldAddr t x i) (hx : evalO s x = .rp xs)
    (hf : fieldOff P t i = some off) (c : SL P ops rest Q (sput s o.dst (.rp (xs.drop off))) δ σ) : SL P ops (o :: rest) Q s δ σ :=
  sl_pure hg (fun G a w hi hr => by
    have h1 := hr.eval x; rw [hx] at h1; obtain ⟨b, f, vs, e1, h2, h3⟩ := rep_rp h1
    exact ⟨_, by simp only [execOp, ho, e1, Sem.run_bind, run_fieldAt hf, Result.andThen_ok, Sem.run_pure], rep_rp_drop off h2 h3⟩) c

theorem sl_fieldAddr_ref {t : TypeId} {x : Operand} {i off : Nat} {y : V} (hg : o.guard = none) (ho : o.op = .fieldAddr t x i) (hx : evalO s x = .val (.ref y))
    (hf : fieldOff P t i = some off) (c : SL P ops rest Q (sput s o.dst (.rp (y.cells.drop off))) δ σ) : SL P ops (o :: rest) Q s δ σ :=
  sl_pure hg (fun G a w hi hr => by
    have h1 := hr.eval x; rw [hx] at h1; obtain ⟨b, f, vs, e1, h2, h3⟩ := rep_rp (Weak.ref y _ _ h1)
    exact ⟨_, by simp only [execOp, ho, e1, Sem.run_bind, run_fieldAt hf, Result.andThen_ok, Sem.run_pure], rep_rp_drop off h2 h3⟩) c

/-- Not nil. -/
def D.sure : D → Bool
  | .ptr _ _ | .rp _ | .func _ _ | .val (.ref _) => true
  | _ => false

theorem sl_nilCheck {x : Operand} (hg : o.guard = none) (ho : o.op = .nilCheck x) (hx : (evalO s x).sure = true)
    (c : SL P ops rest Q (sput s o.dst (evalO s x)) δ σ) : SL P ops (o :: rest) Q s δ σ :=
  sl_pure hg (fun G a w hi hr => by
    have h1 := hr.eval x
    refine ⟨a.eval x, ?_, h1⟩
    generalize evalO s x = d at h1 hx
    generalize hv : a.eval x = v at h1
    cases h1 with
    | ptr b f => simp [execOp, ho, hv]
    | rp b f xs vs _ _ => simp [execOp, ho, hv]
    | func f vs ds _ _ => simp [execOp, ho, hv]
    | val _ y h => cases h <;> first | (simp [D.sure] at hx; done) | simp [execOp, ho, hv]
    | _ => simp [D.sure] at hx) c

/-! ### A place in a list -/

theorem sl_indexAddr {t e : TypeId} {x i : Operand} {k : IntKind} {n : Int} {xs : List V} (hg : o.guard = none) (ho : o.op = .indexAddr t x i)
    (hx : evalO s x = .val (.list xs)) (hn : evalO s i = .val (.int k n)) (ht : P.underlying t = some (.slice e)) (hs : (szOf P e).isSome = true)
    (h0 : 0 ≤ n) (hlt : n.toNat < xs.length) (hsz : ∀ sz, szOf P e = some sz → (xs[n.toNat]).cells.length = sz)
    (c : SL P ops rest Q (sput s o.dst (.rp (xs[n.toNat]).cells)) δ σ) : SL P ops (o :: rest) Q s δ σ :=
  sl_pure hg (fun G a w hi hr => by
    have h1 := hr.eval x; rw [hx] at h1
    have h2 := hr.eval i; rw [hn] at h2; have e2 := rep_int h2
    obtain ⟨sz, hsz'⟩ := Option.isSome_iff_exists.mp hs
    have hc := hsz sz hsz'
    generalize hv : a.eval x = v at h1
    cases h1 with
    | val _ _ h =>
      cases h with
      | empty => simp at hlt
      | list b f cp sz' xs vs h1 h3 h4 h5 =>
        have hz : sz' = sz := by rw [← h3 _ hlt, hc]
        subst hz
        refine ⟨.pointer (some ⟨b, f + n.toNat * sz', none⟩), ?_, .rp _ _ _ (vs n.toNat) (fun k hk => ?_) (fun k hk => h5 _ _ hlt hk)⟩
        · have hin : 0 ≤ n ∧ n < (xs.length : Int) := ⟨h0, by omega⟩
          simp only [execOp, ho, hv, e2, Instr.indexAt, asIntOf, Sem.run_bind, Sem.run_pure, Result.andThen_ok, run_under ht, hin, and_self, if_true, run_sizeOf hsz', addr_add]
        · exact h4 _ _ hlt (by rw [← h3 _ hlt]; exact hk)) c

theorem sl_index_str {t : TypeId} {x i : Operand} {k : IntKind} {n : Int} {l : List UInt8} (hg : o.guard = none) (ho : o.op = .index t x i)
    (hx : evalO s x = .val (.str l)) (hn : evalO s i = .val (.int k n)) (ht : P.underlying t = some .string) (h0 : 0 ≤ n) (hlt : n.toNat < l.length)
    (c : SL P ops rest Q (sput s o.dst (.val (.int .u8 ((l[n.toNat]).toNat : Int)))) δ σ) : SL P ops (o :: rest) Q s δ σ :=
  sl_pure hg (fun G a w hi hr => by
    have h1 := hr.eval x; rw [hx] at h1; obtain ⟨t1, e1, rfl⟩ := rep_str h1
    have h2 := hr.eval i; rw [hn] at h2; have e2 := rep_int h2
    refine ⟨_, ?_, rep_bin (.int _ _)⟩
    have hsz : n.toNat < t1.size := by simp only [Array.length_toList] at hlt; exact hlt
    have hget : t1[n.toNat]? = some (t1.data.toList[n.toNat]) := by
      rw [getElem?_pos t1 n.toNat hsz]; rfl
    simp only [execOp, ho, e1, e2, Instr.index, asIntOf, Sem.run_bind, Sem.run_pure, Result.andThen_ok, run_under ht, h0, if_true, hget]) c

/-! ### Loads -/

theorem run_load_one {P : Program} {w : World} {t : TypeId} {b f : Nat} {v : Value} (ht : aggOf P t = some false) (h : w.cell? ⟨b, f, none⟩ = some v) :
    (Instr.loadAt t (.pointer (some ⟨b, f, none⟩))).run P w = .ok v w := by
  simp only [Instr.loadAt, Instr.sureAddr, loadVar, Sem.run_bind, Sem.run_pure, Result.andThen_ok, run_isAgg ht, Bool.false_eq_true, if_false, run_load, h]

theorem run_load_agg {P : Program} {w : World} {t : TypeId} {b f n : Nat} {vs : Nat → Value} (ht : aggOf P t = some true) (hn : szOf P t = some n)
    (h : ∀ k, k < n → w.cell? ⟨b, f + k, none⟩ = some (vs k)) :
    (Instr.loadAt t (.pointer (some ⟨b, f, none⟩))).run P w = .ok (.agg ((List.range n).map vs).toArray) w := by
  simp only [Instr.loadAt, Instr.sureAddr, loadVar, Sem.run_bind, Sem.run_pure, Result.andThen_ok, run_isAgg ht, if_true, run_sizeOf hn]
  rw [run_loadCells w _ n vs (fun j hj => by rw [addr_add]; exact h j hj)]
  rfl

theorem run_op_load {ρ : Operand → Value} {t : TypeId} {x : Operand} (ho : o.op = .load t x) {w : World} {v : Value} (h : (Instr.loadAt t (ρ x)).run P w = .ok v w) :
    (execOp ρ o).run P w = .ok (.value v) w := by
  simp only [execOp, ho, Sem.run_bind, h, Result.andThen_ok, Sem.run_pure]

theorem range_getD (n k : Nat) (vs : Nat → Value) (h : k < n) : (((List.range n).map vs).toArray).getD k undef = vs k := by
  simp [h]

/-- From immutable memory, one cell. -/
theorem sl_load_rp1 {t : TypeId} {x : Operand} {xs : List V} {y : V} (hg : o.guard = none) (ho : o.op = .load t x) (hx : evalO s x = .rp xs)
    (ht : aggOf P t = some false) (hy : xs[0]? = some y) (c : SL P ops rest Q (sput s o.dst (.val y)) δ σ) : SL P ops (o :: rest) Q s δ σ :=
  sl_pure hg (fun G a w hi hr => by
    have h1 := hr.eval x; rw [hx] at h1; obtain ⟨b, f, vs, e1, h2, h3⟩ := rep_rp h1
    obtain ⟨h0, rfl⟩ := List.getElem?_eq_some_iff.mp hy
    exact ⟨vs 0, run_op_load ho (by rw [e1]; exact run_load_one ht (hi.agree _ _ _ (h2 0 h0))), .val _ _ (h3 0 h0)⟩) c

theorem sl_load_rpn {t : TypeId} {x : Operand} {xs : List V} {n : Nat} (hg : o.guard = none) (ho : o.op = .load t x) (hx : evalO s x = .rp xs)
    (ht : aggOf P t = some true) (hn : szOf P t = some n) (hle : n ≤ xs.length) (c : SL P ops rest Q (sput s o.dst (.val (.agg (xs.take n)))) δ σ) : SL P ops (o :: rest) Q s δ σ :=
  sl_pure hg (fun G a w hi hr => by
    have h1 := hr.eval x; rw [hx] at h1; obtain ⟨b, f, vs, e1, h2, h3⟩ := rep_rp h1
    refine ⟨_, run_op_load ho (by rw [e1]; exact run_load_agg ht hn (fun k hk => hi.agree _ _ _ (h2 k (by omega)))), .val _ _ (.agg _ _ (by simp; omega) (fun k hk => ?_))⟩
    have hk' : k < n := by simp at hk; omega
    rw [range_getD n k vs hk', List.getElem_take]
    exact h3 k (by omega)) c

theorem sl_load_ref {t : TypeId} {x : Operand} {y : V} {n : Nat} (hg : o.guard = none) (ho : o.op = .load t x) (hx : evalO s x = .val (.ref y))
    (ht : aggOf P t = some true) (hn : szOf P t = some n) (hle : n ≤ y.cells.length) (c : SL P ops rest Q (sput s o.dst (.val (.agg (y.cells.take n)))) δ σ) : SL P ops (o :: rest) Q s δ σ :=
  sl_pure hg (fun G a w hi hr => by
    have h1 := hr.eval x; rw [hx] at h1; obtain ⟨b, f, vs, e1, h2, h3⟩ := rep_rp (Weak.ref y _ _ h1)
    refine ⟨_, run_op_load ho (by rw [e1]; exact run_load_agg ht hn (fun k hk => hi.agree _ _ _ (h2 k (by omega)))), .val _ _ (.agg _ _ (by simp; omega) (fun k hk => ?_))⟩
    have hk' : k < n := by simp at hk; omega
    rw [range_getD n k vs hk', List.getElem_take]
    exact h3 k (by omega)) c

theorem cell_of_blk {G : Gh} {w : World} {b : Nat} {ds : List D} (hi : Inv G σ w) (hm : (.blk b ds) ∈ σ) : ∃ vs : Nat → Value, (∀ k, k < ds.length → w.cell? ⟨b, k, none⟩ = some (vs k)) ∧
    ∀ k (hk : k < ds.length), RepD G.C (vs k) ds[k] := by
  obtain ⟨cs, ty, fz, h, h1, h2, h3⟩ := hi.holds _ hm
  refine ⟨fun k => cs.getD k undef, fun k hk => ?_, h3⟩
  have hk' : k < cs.size := by omega
  simp only [World.cell?, h, Array.getD_eq_getD_getElem?, Array.getElem?_eq_getElem hk', Option.getD_some]
  rfl

/-- From an owned block, one cell. -/
theorem sl_load_blk1 {t : TypeId} {x : Operand} {b f : Nat} {ds : List D} {d : D} (hg : o.guard = none) (ho : o.op = .load t x) (hx : evalO s x = .ptr b f)
    (ht : aggOf P t = some false) (hm : (.blk b ds) ∈ σ) (hd : ds[f]? = some d) (c : SL P ops rest Q (sput s o.dst d) δ σ) : SL P ops (o :: rest) Q s δ σ :=
  sl_pure hg (fun G a w hi hr => by
    have h1 := hr.eval x; rw [hx] at h1; have e1 := rep_ptr h1
    obtain ⟨h0, rfl⟩ := List.getElem?_eq_some_iff.mp hd
    obtain ⟨vs, h2, h3⟩ := cell_of_blk hi hm
    exact ⟨vs f, run_op_load ho (by rw [e1]; exact run_load_one ht (h2 f h0)), h3 f h0⟩) c

theorem sl_load_blkn {t : TypeId} {x : Operand} {b f n : Nat} {ds : List D} (hg : o.guard = none) (ho : o.op = .load t x) (hx : evalO s x = .ptr b f)
    (ht : aggOf P t = some true) (hn : szOf P t = some n) (hm : (.blk b ds) ∈ σ) (hle : f + n ≤ ds.length) (c : SL P ops rest Q (sput s o.dst (.agg ((ds.drop f).take n))) δ σ) :
    SL P ops (o :: rest) Q s δ σ :=
  sl_pure hg (fun G a w hi hr => by
    have h1 := hr.eval x; rw [hx] at h1; have e1 := rep_ptr h1
    obtain ⟨vs, h2, h3⟩ := cell_of_blk hi hm
    refine ⟨_, run_op_load ho (by rw [e1]; exact run_load_agg ht hn (vs := fun k => vs (f + k)) (fun k hk => h2 _ (by omega))), .agg _ _ (by simp; omega) (fun k hk => ?_)⟩
    have hk' : k < n := by simp at hk; omega
    rw [range_getD n k _ hk', List.getElem_take, List.getElem_drop]
    exact h3 _ (by omega)) c

end rules
end Go.Proofs.YtlolmemiedhhhaaDoor.SL

/- The program logic, fifth part: new blocks, stores, structs. -/
namespace Go.Proofs.YtlolmemiedhhhaaDoor.SL
set_option linter.unusedVariables false
set_option linter.unusedSimpArgs false
open Go Go.RowKit

/-! ### A value's cells -/

def D.known : D → Bool
  | .junk => false
  | _ => true

theorem rep_cells {C : Imm} {v : Value} {d : D} (r : RepD C v d) (hk : d.known = true) : v.cells.size = d.cells.length ∧ ∀ k (h : k < d.cells.length), RepD C (v.cells.getD k undef) d.cells[k] := by
  have one : ∀ (v : Value) (d : D), RepD C v d → v.cells = #[v] → d.cells = [d] → v.cells.size = d.cells.length ∧ ∀ k (h : k < d.cells.length), RepD C (v.cells.getD k undef) d.cells[k] := by
    intro v d r h1 h2
    refine ⟨by rw [h1, h2]; rfl, fun k h => ?_⟩
    have h0 : k = 0 := by rw [h2] at h; simpa using h
    subst h0
    simp only [h1, h2, List.getElem_cons_zero]
    exact r
  cases r with
  | val _ x h =>
    cases h with
    | agg vs xs hs hv =>
      refine ⟨by simpa [Value.cells, D.cells] using hs, fun k hk => ?_⟩
      simp only [D.cells, List.length_map] at hk
      simp only [D.cells, List.getElem_map]
      exact .val _ _ (hv k hk)
    | bool b => exact one _ _ (.val _ _ (.bool b)) rfl rfl
    | int a b => exact one _ _ (.val _ _ (.int a b)) rfl rfl
    | str t => exact one _ _ (.val _ _ (.str t)) rfl rfl
    | empty a c => exact one _ _ (.val _ _ (.empty a c)) rfl rfl
    | list b o c sz xs vs h1 h2 h3 h4 => exact one _ _ (.val _ _ (.list b o c sz xs vs h1 h2 h3 h4)) rfl rfl
    | ref b o x vs h1 h2 => exact one _ _ (.val _ _ (.ref b o x vs h1 h2)) rfl rfl
    | nil => exact one _ _ (.val _ _ .nil) rfl rfl
    | iface t v x h => exact one _ _ (.val _ _ (.iface t v x h)) rfl rfl
    | nilIface => exact one _ _ (.val _ _ .nilIface) rfl rfl
    | nilFunc => exact one _ _ (.val _ _ .nilFunc) rfl rfl
  | agg vs ds h hv => exact ⟨h, hv⟩
  | fix a xs h => exact one _ _ (.fix a xs h) rfl rfl
  | ptr b o => exact one _ _ (.ptr b o) rfl rfl
  | rp b o xs vs h1 h2 => exact one _ _ (.rp b o xs vs h1 h2) rfl rfl
  | sl b o n c => exact one _ _ (.sl b o n c) rfl rfl
  | own v xs h =>
    refine one _ _ (.own v xs h) ?_ rfl
    cases h <;> rfl
  | tup vs ds h hv => exact one _ _ (.tup vs ds h hv) rfl rfl
  | func f vs ds h hv => exact one _ _ (.func f vs ds h hv) rfl rfl
  | iface t v d h => exact one _ _ (.iface t v d h) rfl rfl
  | map r => exact one _ _ (.map r) rfl rfl
  | junk v => simp [D.known] at hk

/-- A zero value's cells, as the table has it. -/
def zeroDs (P : Program) (t : TypeId) : Option (List D) := (zeroOf P t).map fun v => v.cells.toList.map ofConst

theorem zero_cells {P : Program} {t : TypeId} {ds : List D} (h : zeroDs P t = some ds) : ∃ v, zeroOf P t = some v ∧ ∀ C, v.cells.size = ds.length ∧ ∀ k (hk : k < ds.length), RepD C (v.cells.getD k undef) ds[k] := by
  unfold zeroDs at h
  obtain ⟨v, hv, rfl⟩ := Option.map_eq_some_iff.mp h
  refine ⟨v, hv, fun C => ⟨by simp, fun k hk => ?_⟩⟩
  have hk' : k < v.cells.size := by simpa using hk
  simp only [List.getElem_map, Array.getElem_toList, Array.getD_eq_getD_getElem?, Array.getElem?_eq_getElem hk', Option.getD_some]
  exact ofConst_rep C _

section rules
variable {P : Program} {ops : Array Oper} {Q : Post} {s : Slots} {δ : Defs} {σ : List Chunk} {o : Oper} {rest : List Oper}

theorem sl_alloc {t : TypeId} {ds : List D} (hg : o.guard = none) (ho : o.op = .alloc t) (hz : zeroDs P t = some ds)
    (c : ∀ b, SL P ops rest Q (sput s o.dst (.ptr b 0)) δ (.blk b ds :: σ)) : SL P ops (o :: rest) Q s δ σ :=
  sl_op hg fun G a w hi hr => by
    obtain ⟨v, hv, hr'⟩ := zero_cells hz
    have h := hr' G.C
    refine ⟨.pointer (some ⟨w.heap.size, 0, none⟩), w.alloc (.cells v.cells t), G, .ptr w.heap.size 0, .blk w.heap.size ds :: σ, ?_, G.le_refl, hi.alloc h.1 h.2, .ptr _ _, c _⟩
    simp only [execOp, ho, Instr.alloc, Sem.run_bind, run_zeroOf hv, Result.andThen_ok, newVar, newRow, run_newObj, Sem.run_pure]
    rfl

theorem sl_box {t : TypeId} {x : Operand} (hg : o.guard = none) (ho : o.op = .box t x) (hk : (evalO s x).known = true)
    (c : ∀ b, SL P ops rest Q (sput s o.dst (.ptr b 0)) δ (.blk b (evalO s x).cells :: σ)) : SL P ops (o :: rest) Q s δ σ :=
  sl_op hg fun G a w hi hr => by
    have h := rep_cells (hr.eval x) hk
    refine ⟨.pointer (some ⟨w.heap.size, 0, none⟩), w.alloc (.cells (a.eval x).cells t), G, .ptr w.heap.size 0, .blk w.heap.size (evalO s x).cells :: σ, ?_, G.le_refl, hi.alloc h.1 h.2, .ptr _ _, c _⟩
    simp only [execOp, ho, Instr.box, Sem.run_bind, Result.andThen_ok, newVar, newRow, run_newObj, Sem.run_pure]
    rfl

/-! ### Freezing -/

def Gh.freeze (G : Gh) (b : Nat) (cs : Array Value) : Gh := { G with C := fun b' o => if b' = b then cs[o]? else G.C b' o }

theorem Gh.freeze_le {G : Gh} {b : Nat} {cs : Array Value} (h : ∀ o, G.C b o = none) : G.le (G.freeze b cs) :=
  ⟨rfl, fun b' o v hv => by
    show (if b' = b then cs[o]? else G.C b' o) = some v
    split
    · rename_i e; subst e; rw [h o] at hv; cases hv
    · exact hv⟩

theorem Inv.freeze {G : Gh} {b : Nat} {ds : List D} {w : World} {cs : Array Value} {ty : TypeId} {fz : Nat × Nat} (hi : Inv G (.blk b ds :: σ) w) (hb : w.heap[b]? = some (.cells cs ty fz)) :
    G.le (G.freeze b cs) ∧ Inv (G.freeze b cs) σ w := by
  have hle : G.le (G.freeze b cs) := Gh.freeze_le fun o => hi.apart (.blk b ds) (List.mem_cons_self ..) b o rfl
  have hne := hi.ne_head (c := .blk b ds) rfl
  refine ⟨hle, hi.below, fun b' o v hv => ?_, fun x hx => ?_, hi.drop.nodup, fun x hx y o hy => ?_, fun x hx => hi.fresh x (List.mem_cons_of_mem _ hx)⟩
  · change (if b' = b then cs[o]? else G.C b' o) = some v at hv
    split at hv
    · rename_i e; subst e
      simp only [World.cell?, hb]; exact hv
    · exact hi.agree b' o v hv
  · exact Chunk.holds_of_block hle.2 (fun _ _ => rfl) (hi.holds x (List.mem_cons_of_mem _ hx)) (.refl _)
  · have hne' : y ≠ b := fun e => by subst e; exact hne x hx (Chunk.owns_b hy)
    show (if y = b then cs[o]? else G.C y o) = none
    rw [if_neg hne']
    exact hi.apart x (List.mem_cons_of_mem _ hx) y o hy

theorem toVs_rep {C : Imm} {cs : Array Value} {ds : List D} {xs : List V} (hs : cs.size = ds.length) (hr : ∀ k (hk : k < ds.length), RepD C (cs.getD k undef) ds[k]) (h : toVs ds = some xs) :
    cs.size = xs.length ∧ ∀ k (hk : k < xs.length), RepV C (cs.getD k undef) xs[k] := by
  obtain ⟨h2, h3⟩ := toVs_get ds xs h
  exact ⟨hs.trans h2, fun k hk => toV_rep (hr k (by omega)) _ (h3 k (by omega) hk)⟩

/-- A block of pure data becomes immutable: a slot that points to its head may be read as a pointer to the datum. -/
theorem sl_freeze {t b : Nat} {ds : List D} {xs : List V} (hs : s.get t = .ptr b 0) (hx : toVs ds = some xs)
    (c : SL P ops rest Q (sput s (some t) (.rp xs)) δ σ) : SL P ops rest Q s δ (.blk b ds :: σ) := fun G a w hi hr => by
  obtain ⟨cs, ty, fz, h, h1, h2, h3⟩ := hi.holds _ (List.mem_cons_self ..)
  obtain ⟨hle, hi'⟩ := hi.freeze h
  obtain ⟨h4, h5⟩ := toVs_rep h2 h3 hx
  refine SL.use hle c hi' ?_
  refine (hr.mono hle).recast t fun v r => ?_
  rw [hs] at r
  have hv := rep_ptr r
  · rw [hv]
    refine .rp b 0 xs (fun k => cs.getD k undef) (fun k hk => ?_) (fun k hk => (h5 k hk).mono hle.2)
    have hk' : k < cs.size := by omega
    show (if b = b then cs[0 + k]? else G.C b (0 + k)) = _
    rw [if_pos rfl, Nat.zero_add, Array.getElem?_eq_getElem hk', Array.getD_eq_getD_getElem?, Array.getElem?_eq_getElem hk']; rfl

/-! ### Stores -/

theorem run_storeCells {P : Program} : ∀ (vs : List Value) (i : Nat) (w : World) (b f : Nat) (cs : Array Value) (ty : TypeId) (fz : Nat × Nat),
    w.heap[b]? = some (.cells cs ty fz) → (∀ o, o < cs.size → ¬ (fz.1 ≤ o ∧ o < fz.2)) → f + i + vs.length ≤ cs.size → (∀ v ∈ vs, v.oneCell' = true) →
    ∃ w' cs', (storeCells ⟨b, f, none⟩ vs i).run P w = .ok () w' ∧ w'.heap[b]? = some (.cells cs' ty fz) ∧ cs'.size = cs.size ∧
      (∀ k, k < vs.length → cs'.getD (f + i + k) undef = vs.getD k undef) ∧ (∀ k, k < f + i ∨ f + i + vs.length ≤ k → cs'.getD k undef = cs.getD k undef) ∧
      w'.os = w.os ∧ w'.tape = w.tape ∧ w'.output = w.output ∧ w'.heap.size = w.heap.size ∧ ∀ k, k ≠ b → w'.heap[k]? = w.heap[k]?
  | [], i, w, b, f, cs, ty, fz, h, hfz, hsz, hv => ⟨w, cs, rfl, h, rfl, fun k hk => absurd hk (by simp), fun _ _ => rfl, rfl, rfl, rfl, rfl, fun _ _ => rfl⟩
  | v :: vs, i, w, b, f, cs, ty, fz, h, hfz, hsz, hv => by
    simp only [List.length_cons] at hsz
    have hin : f + i < cs.size := by omega
    have hcell : w.cell? ⟨b, f + i, none⟩ = some cs[f + i] := by
      simp only [World.cell?, h, Array.getElem?_eq_getElem hin]; rfl
    have hfr : w.frozen? ⟨b, f + i, none⟩ = false := by
      simp only [World.frozen?, h]
      have := hfz (f + i) hin
      simp only [Bool.and_eq_false_iff, decide_eq_false_iff_not]
      omega
    have hb' : (w.setCell ⟨b, f + i, none⟩ v).heap[b]? = some (.cells (cs.setIfInBounds (f + i) v) ty fz) := by
      simp only [World.setCell, Array.getElem?_modify, if_true, h, Option.map_some]; rfl
    obtain ⟨w', cs', h1, h2, h3, h4, h5, h6, h7, h8, h9, h10⟩ := run_storeCells (P := P) vs (i + 1) (w.setCell ⟨b, f + i, none⟩ v) b f (cs.setIfInBounds (f + i) v) ty fz hb'
      (by simpa using hfz) (by simp; omega) (fun u hu => hv u (List.mem_cons_of_mem _ hu))
    refine ⟨w', cs', ?_, h2, by simpa using h3, fun k hk => ?_, fun k hk => ?_, h6, h7, h8, by simpa using h9, fun k hk => ?_⟩
    · simp only [storeCells, Sem.run_bind, addr_add, run_store P w _ v .plain (hv v (List.mem_cons_self ..)), hcell, hfr, Bool.false_eq_true, if_false, Result.andThen_ok, h1]
    · cases k with
      | zero =>
        rw [h5 _ (by omega)]
        simp [hin]
      | succ k =>
        have := h4 k (by simpa using hk)
        rw [show f + i + (k + 1) = f + (i + 1) + k by omega, this]; rfl
    · rw [h5 k (by simp only [List.length_cons] at hk; omega)]
      have : f + i ≠ k := by simp only [List.length_cons] at hk; omega
      simp only [Array.getD_eq_getD_getElem?, Array.getElem?_setIfInBounds_ne this]
    · rw [h10 k hk, Below.heap_setCell _ _ _ _ (by simpa using hk)]

/-- New cells from place f on. -/
def putAt (ds : List D) (f : Nat) (xs : List D) : List D := ds.take f ++ xs ++ ds.drop (f + xs.length)

theorem putAt_length {ds xs : List D} {f : Nat} (h : f + xs.length ≤ ds.length) : (putAt ds f xs).length = ds.length := by
  simp only [putAt, List.length_append, List.length_take, List.length_drop]; omega

theorem putAt_in {ds xs : List D} {f k : Nat} (h : f + xs.length ≤ ds.length) (hk : k < xs.length) (hk' : f + k < (putAt ds f xs).length) : (putAt ds f xs)[f + k] = xs[k] := by
  have h1 : (ds.take f).length = f := by simp; omega
  simp only [putAt, List.append_assoc]
  rw [List.getElem_append_right (by omega), List.getElem_append_left (by omega)]
  congr 1; omega

theorem putAt_out {ds xs : List D} {f k : Nat} (h : f + xs.length ≤ ds.length) (hk : k < f ∨ f + xs.length ≤ k) (hk' : k < (putAt ds f xs).length) (hk'' : k < ds.length) : (putAt ds f xs)[k] = ds[k] := by
  have h1 : (ds.take f).length = f := by simp; omega
  simp only [putAt, List.append_assoc]
  rcases hk with hk | hk
  · rw [List.getElem_append_left (by omega), List.getElem_take]
  · rw [List.getElem_append_right (by omega), List.getElem_append_right (by omega), List.getElem_drop]
    congr 1; omega

theorem oneCell_of_rep {C : Imm} {v : Value} {d : D} (r : RepD C v d) (hd : d.cells.length = 1 → True) : True := trivial

/-- A cell's datum is no struct. -/
def D.cell : D → Bool
  | .agg _ | .tup _ | .junk => false
  | .val (.agg _) => false
  | _ => true

theorem rep_cell {C : Imm} {v : Value} {d : D} (r : RepD C v d) (h : d.cell = true) : v.oneCell' = true ∧ v.cells = #[v] := by
  cases r with
  | val _ x hx => cases hx <;> first | exact ⟨rfl, rfl⟩ | simp [D.cell] at h
  | agg => simp [D.cell] at h
  | tup => simp [D.cell] at h
  | junk => simp [D.cell] at h
  | own v xs hx => cases hx <;> exact ⟨rfl, rfl⟩
  | _ => exact ⟨rfl, rfl⟩

/-- A store into an owned block (the first of them). -/
theorem sl_store0 {t : TypeId} {x y : Operand} {b f n : Nat} {ds : List D} (hg : o.guard = none) (ho : o.op = .store t x y) (hx : evalO s x = .ptr b f)
    (hn : szOf P t = some n) (hk : (evalO s y).known = true) (hc : ∀ d ∈ (evalO s y).cells, d.cell = true) (hl : (evalO s y).cells.length = n) (hle : f + n ≤ ds.length)
    (c : SL P ops rest Q (sput s o.dst .junk) δ (.blk b (putAt ds f (evalO s y).cells) :: σ)) : SL P ops (o :: rest) Q s δ (.blk b ds :: σ) :=
  sl_skip hg fun G a w hi hr => by
    have h1 := hr.eval x; rw [hx] at h1; have e1 := rep_ptr h1
    obtain ⟨h2, h3⟩ := rep_cells (hr.eval y) hk
    obtain ⟨cs, ty, fz, h, hfz, hsz, hrep⟩ := hi.holds _ (List.mem_cons_self ..)
    have hone : ∀ v ∈ (a.eval y).cells.toList, v.oneCell' = true := by
      intro v hv
      obtain ⟨k, hk, rfl⟩ := List.getElem_of_mem hv
      have hk1 : k < (a.eval y).cells.size := by simpa using hk
      have hk2 : k < (evalO s y).cells.length := by omega
      have := h3 k hk2
      simp only [Array.getD_eq_getD_getElem?, Array.getElem?_eq_getElem hk1, Option.getD_some] at this
      simpa using (rep_cell this (hc _ (List.getElem_mem hk2))).1
    have hlen : (a.eval y).cells.toList.length = n := by rw [Array.length_toList, h2, hl]
    obtain ⟨w', cs', g1, g2, g3, g4, g5, g6, g7, g8, g9, g10⟩ := run_storeCells (P := P) (a.eval y).cells.toList 0 w b f cs ty fz h hfz (by omega) hone
    refine ⟨w', G, .blk b (putAt ds f (evalO s y).cells) :: σ, ?_, G.le_refl, ?_, c⟩
    · have hsz2 : (a.eval y).cells.size = n := by rw [h2, hl]
      simp only [execOp, ho, e1, Instr.storeAt, Instr.sureAddr, storeVar, Sem.run_bind, Sem.run_pure, Result.andThen_ok, run_sizeOf hn, hsz2, ne_eq, not_true_eq_false, if_false, g1]
    · have hpl : (putAt ds f (evalO s y).cells).length = ds.length := putAt_length (by omega)
      refine hi.change (c := .blk b ds) (c' := .blk b (putAt ds f (evalO s y).cells)) rfl (fun x e => by simpa [Chunk.b?] using e.symm) G.le_refl (fun x o v hv => .inl hv) g6 g7 g8 g9 g10
        (fun o v hv => by rw [hi.apart (.blk b ds) (List.mem_cons_self ..) b o rfl] at hv; cases hv) ⟨cs', ty, fz, g2, by rw [g3]; exact hfz, by rw [g3, hpl]; exact hsz, fun k hk => ?_⟩
        (fun x o e => hi.apart (.blk b ds) (List.mem_cons_self ..) x o e) (fun t0 c0 f0 h0 => by rw [h] at h0; cases h0; exact ⟨_, _, g2, g3⟩)
      by_cases hin : f ≤ k ∧ k < f + n
      · obtain ⟨j, rfl⟩ : ∃ j, k = f + j := ⟨k - f, by omega⟩
        have hj : j < (evalO s y).cells.length := by omega
        rw [putAt_in (by omega) hj hk]
        have := g4 j (by omega)
        simp only [Nat.add_zero] at this
        rw [this]
        have := h3 j hj
        have hj' : j < (a.eval y).cells.size := by omega
        simpa [hj'] using this
      · rw [putAt_out (by omega) (by omega) hk (by omega)]
        rw [g5 k (by omega)]
        exact hrep k (by omega)

end rules
end Go.Proofs.YtlolmemiedhhhaaDoor.SL

/- The program logic, sixth part: structs and lists that are made, append, len, slices, calls. -/
namespace Go.Proofs.YtlolmemiedhhhaaDoor.SL
set_option linter.unusedVariables false
set_option linter.unusedSimpArgs false
open Go Go.RowKit

/-! ### Parts -/

theorem foldl_set (off : Nat) : ∀ (l : List Value) (i : Nat) (cs : Array Value), off + i + l.length ≤ cs.size →
    ((l.zipIdx i).foldl (fun cs (x : Value × Nat) => cs.setIfInBounds (off + x.2) x.1) cs).size = cs.size ∧
    (∀ k, k < l.length → ((l.zipIdx i).foldl (fun cs (x : Value × Nat) => cs.setIfInBounds (off + x.2) x.1) cs).getD (off + i + k) undef = l.getD k undef) ∧
    ∀ k, k < off + i ∨ off + i + l.length ≤ k → ((l.zipIdx i).foldl (fun cs (x : Value × Nat) => cs.setIfInBounds (off + x.2) x.1) cs).getD k undef = cs.getD k undef
  | [], i, cs, h => ⟨rfl, fun k hk => absurd hk (by simp), fun _ _ => rfl⟩
  | v :: l, i, cs, h => by
    simp only [List.length_cons] at h
    obtain ⟨h1, h2, h3⟩ := foldl_set off l (i + 1) (cs.setIfInBounds (off + i) v) (by simp; omega)
    simp only [List.zipIdx_cons, List.foldl_cons]
    refine ⟨by simpa using h1, fun k hk => ?_, fun k hk => ?_⟩
    · cases k with
      | zero =>
        rw [h3 _ (by omega)]
        have : off + i < cs.size := by omega
        simp [this]
      | succ k =>
        have := h2 k (by simpa using hk)
        rw [show off + i + (k + 1) = off + (i + 1) + k by omega, this]; rfl
    · simp only [List.length_cons] at hk
      rw [h3 k (by omega)]
      have : off + i ≠ k := by omega
      simp only [Array.getD_eq_getD_getElem?, Array.getElem?_setIfInBounds_ne this]

/-- As 'Instr.fill', over data. -/
def fillD (place : Nat → Option (Nat × Nat)) (ds : List D) : List (Nat × D) → Option (List D)
  | [] => some ds
  | (i, d) :: rest =>
    match place i with
    | none => none
    | some (off, size) => if d.known = true ∧ d.cells.length = size ∧ off + size ≤ ds.length then fillD place (putAt ds off d.cells) rest else none

theorem fill_rep {C : Imm} {place : Nat → Option (Nat × Nat)} {ρ : Operand → Value} {ε : Operand → D} (hρ : ∀ x, RepD C (ρ x) (ε x)) : ∀ (parts : List (Nat × Operand)) (cs : Array Value) (ds ds' : List D),
    cs.size = ds.length → (∀ k (hk : k < ds.length), RepD C (cs.getD k undef) ds[k]) → fillD place ds (parts.map fun p => (p.1, ε p.2)) = some ds' →
    ∃ cs', Instr.fill place cs (parts.map fun p => (p.1, ρ p.2)) = some cs' ∧ cs'.size = ds'.length ∧ ∀ k (hk : k < ds'.length), RepD C (cs'.getD k undef) ds'[k]
  | [], cs, ds, ds', hs, hr, h => by
    simp only [List.map_nil, fillD, Option.some.injEq] at h; subst h
    exact ⟨cs, rfl, hs, hr⟩
  | (i, x) :: parts, cs, ds, ds', hs, hr, h => by
    simp only [List.map_cons, fillD] at h
    split at h
    · cases h
    · rename_i off size hp
      split at h
      · rename_i hc
        obtain ⟨hk, hl, hle⟩ := hc
        obtain ⟨h1, h2⟩ := rep_cells (hρ x) hk
        have hle' : off + (ε x).cells.length ≤ ds.length := by omega
        obtain ⟨g1, g2, g3⟩ := foldl_set off (ρ x).cells.toList 0 cs (by rw [Array.length_toList]; omega)
        simp only [Nat.add_zero, Array.length_toList] at g2 g3
        have hpl := putAt_length (f := off) (xs := (ε x).cells) hle'
        obtain ⟨cs', e1, e2, e3⟩ := fill_rep hρ parts _ (putAt ds off (ε x).cells) ds' (by rw [g1, hpl]; exact hs) (fun k hk => by
          by_cases hin : off ≤ k ∧ k < off + (ε x).cells.length
          · obtain ⟨j, rfl⟩ : ∃ j, k = off + j := ⟨k - off, by omega⟩
            have hj : j < (ε x).cells.length := by omega
            rw [putAt_in hle' hj hk, g2 j (by omega)]
            have := h2 j hj
            have hj' : j < (ρ x).cells.size := by omega
            simpa [hj'] using this
          · rw [putAt_out hle' (by omega) hk (by omega), g3 k (by omega)]
            exact hr k (by omega)) h
        refine ⟨cs', ?_, e2, e3⟩
        simp only [List.map_cons, Instr.fill, hp]
        have c1 : ¬ ((ρ x).cells.size ≠ size ∨ off + (ρ x).cells.size > cs.size) := by omega
        simp only [bne_iff_ne, decide_eq_true_eq, Bool.or_eq_true, c1, if_false, ne_eq]
        rw [← Array.foldl_toList, Array.toList_zipIdx]
        exact e1
      · cases h

def buildInfo (P : Program) (t : TypeId) : Option (List (Nat × Nat)) :=
  match P.underlying t with
  | some (.struct fs) => fs.toList.mapM fun f => (szOf P f.type).map fun n => (f.offset, n)
  | _ => none

theorem buildInfo_run {P : Program} {t : TypeId} {l : List (Nat × Nat)} (h : buildInfo P t = some l) : ∃ fs, P.underlying t = some (.struct fs) ∧
    ∀ w, (fs.mapM fun f => do pure (f.offset, ← sizeOf f.type) : Sem (Array (Nat × Nat))).run P w = .ok l.toArray w := by
  unfold buildInfo at h
  split at h
  · rename_i fs hu
    refine ⟨fs, hu, fun w => ?_⟩
    have key : ∀ (fs : List Field) (l : List (Nat × Nat)), (fs.mapM fun f => (szOf P f.type).map fun n => (f.offset, n)) = some l →
        (fs.mapM fun f => do pure (f.offset, ← sizeOf f.type) : Sem (List (Nat × Nat))).run P w = .ok l w := by
      intro fs
      induction fs with
      | nil => intro l h; simp at h; subst h; rfl
      | cons f fs ih =>
        intro l h
        simp only [List.mapM_cons, Option.bind_eq_bind, Option.bind_eq_some_iff, Option.map_eq_some_iff] at h
        obtain ⟨x, ⟨n, hn, rfl⟩, ys, hys, h⟩ := h
        cases h
        simp only [List.mapM_cons, Sem.run_bind, run_sizeOf hn, Result.andThen_ok, Sem.run_pure, ih ys hys]
    have : fs = fs.toList.toArray := by simp
    rw [this, List.mapM_toArray, Sem.run_map, key _ _ h]
    rfl
  · cases h

theorem getD_map_junk (n k : Nat) (C : Imm) (v : Value) (hk : k < (List.replicate n D.junk).length) : RepD C v (List.replicate n D.junk)[k] := by
  rw [List.getElem_replicate]; exact .junk _

section rules
variable {P : Program} {ops : Array Oper} {Q : Post} {s : Slots} {δ : Defs} {σ : List Chunk} {o : Oper} {rest : List Oper}

theorem sl_build {t : TypeId} {parts : List (Nat × Operand)} {pl : List (Nat × Nat)} {zs ds : List D} (hg : o.guard = none) (ho : o.op = .build t parts.toArray)
    (hp : buildInfo P t = some pl) (hz : zeroDs P t = some zs) (hf : fillD (fun i => pl[i]?) zs (parts.map fun p => (p.1, evalO s p.2)) = some ds)
    (c : SL P ops rest Q (sput s o.dst (.agg ds)) δ σ) : SL P ops (o :: rest) Q s δ σ :=
  sl_pure hg (fun G a w hi hr => by
    obtain ⟨fs, hu, hrun⟩ := buildInfo_run hp
    obtain ⟨v, hv, hvr⟩ := zero_cells hz
    obtain ⟨cs', h1, h2, h3⟩ := fill_rep (C := G.C) (fun x => hr.eval x) parts v.cells zs ds (hvr G.C).1 (hvr G.C).2 hf
    refine ⟨.agg cs', ?_, .agg _ _ h2 h3⟩
    have hpl : ∀ i, pl.toArray[i]? = pl[i]? := fun i => List.getElem?_toArray ..
    have hm : (parts.toArray.map fun (i, x) => (i, a.eval x)).toList = parts.map fun p => (p.1, a.eval p.2) := by rw [List.map_toArray]
    simp only [execOp, ho, Instr.build, Sem.run_bind, run_zeroOf hv, Result.andThen_ok, run_under hu, hrun w, hm, hpl, h1, Sem.run_pure]) c

theorem flat_get {xs : List V} {sz : Nat} (h : ∀ x ∈ xs, x.cells.length = sz) : (xs.flatMap V.cells).length = xs.length * sz ∧
    ∀ i k (hi : i < xs.length) (hk : k < (xs[i]).cells.length), (xs.flatMap V.cells)[i * sz + k]? = some ((xs[i]).cells[k]) := by
  induction xs with
  | nil => exact ⟨by simp, fun i k hi => absurd hi (by simp)⟩
  | cons x xs ih =>
    obtain ⟨h1, h2⟩ := ih (fun y hy => h y (List.mem_cons_of_mem _ hy))
    have hx := h x (List.mem_cons_self ..)
    refine ⟨by simp only [List.flatMap_cons, List.length_append, List.length_cons, h1, hx, Nat.add_mul]; omega, fun i k hi hk => ?_⟩
    cases i with
    | zero =>
      simp only [List.getElem_cons_zero] at hk ⊢
      simp only [Nat.zero_mul, Nat.zero_add, List.flatMap_cons]
      rw [List.getElem?_append_left hk, List.getElem?_eq_getElem hk]
    | succ i =>
      simp only [List.getElem_cons_succ] at hk ⊢
      have hi' : i < xs.length := by simpa using hi
      rw [List.flatMap_cons, List.getElem?_append_right (by rw [hx, Nat.add_mul]; omega)]
      rw [show (i + 1) * sz + k - x.cells.length = i * sz + k by rw [hx, Nat.add_mul]; omega]
      exact h2 i k hi' hk

/-- A row of cells that hold, one behind the other, a list's data: what a slice over it reads as. -/
theorem list_of_flat {C : Imm} {b f n : Nat} {xs : List V} {sz : Nat} {cs : Array Value} (hsz : ∀ x ∈ xs, x.cells.length = sz) (hn : xs.length ≤ n)
    (hC : ∀ k, k < xs.length * sz → C b (f + k) = some (cs.getD (f + k) undef)) (hr : ∀ k (y : V), (xs.flatMap V.cells)[k]? = some y → RepV C (cs.getD (f + k) undef) y) :
    RepV C (.slice (some ⟨b, f, none⟩) xs.length n) (.list xs) := by
  refine .list b f n sz xs (fun i k => cs.getD (f + (i * sz + k)) undef) hn (fun i h => hsz _ (List.getElem_mem h)) (fun i k hi hk => ?_) (fun i k hi hk => hr _ _ ((flat_get hsz).2 i k hi hk))
  rw [Nat.add_assoc]
  refine hC _ ?_
  have : (i + 1) * sz ≤ xs.length * sz := Nat.mul_le_mul_right _ hi
  rw [Nat.add_mul] at this; omega

theorem sl_buildSlice {t e : TypeId} {len sz : Nat} {parts : List (Nat × Operand)} {ds : List D} {xs : List V} (hg : o.guard = none) (ho : o.op = .buildSlice t len parts.toArray)
    (ht : P.underlying t = some (.slice e)) (hs : szOf P e = some sz) (hz : (zeroOf P e).isSome = true) (hlim : len * sz ≤ 16777216)
    (hf : fillD (fun i => some (i * sz, sz)) (List.replicate (len * sz) .junk) (parts.map fun p => (p.1, evalO s p.2)) = some ds) (hx : toVs ds = some (xs.flatMap V.cells))
    (hl : xs.length = len) (hxs : ∀ x ∈ xs, x.cells.length = sz)
    (c : SL P ops rest Q (sput s o.dst (.fix xs)) δ σ) : SL P ops (o :: rest) Q s δ σ :=
  sl_op hg fun G a w hi hr => by
    obtain ⟨zv, hzv⟩ := Option.isSome_iff_exists.mp hz
    generalize hzero : (if len * sz = 0 then #[] else zv.cells) = zero
    obtain ⟨cs', h1, h2, h3⟩ := fill_rep (C := G.C) (place := fun i => some (i * sz, sz)) (fun x => hr.eval x) parts ((Array.range (len * sz)).map (zero[· % zero.size]!)) (List.replicate (len * sz) .junk) ds
      (by simp) (fun k hk => getD_map_junk _ _ _ _ hk) hf
    have hi1 := hi.alloc (ty := e) h2 h3
    obtain ⟨hle, hi2⟩ := hi1.freeze (heap_new w _)
    obtain ⟨h4, h5⟩ := toVs_rep h2 h3 hx
    subst hl
    have hfl := (flat_get hxs).1
    refine ⟨.slice (some ⟨w.heap.size, 0, none⟩) xs.length xs.length, w.alloc (.cells cs' e), G.freeze w.heap.size cs', .fix xs, σ, ?_, hle, hi2, .fix _ _ ?_, c⟩
    · have hm : (parts.toArray.map fun (i, x) => (i, a.eval x)).toList = parts.map fun p => (p.1, a.eval p.2) := by rw [List.map_toArray]
      have hlim' : ¬ (xs.length * sz > 2 ^ 24) := by simp; omega
      simp only [execOp, ho, Instr.buildSlice, Sem.run_bind, run_under ht, Result.andThen_ok, run_sizeOf hs, hlim', if_false, Sem.run_pure, hm]
      by_cases h0 : xs.length * sz = 0
      · rw [if_pos h0] at hzero
        subst hzero
        simp only [h0, if_true, Sem.run_bind, Sem.run_pure, Result.andThen_ok] at h1 ⊢
        simp only [h1, newRow, Sem.run_bind, run_newObj, Sem.run_pure, Result.andThen_ok]
        rfl
      · rw [if_neg h0] at hzero
        subst hzero
        simp only [h0, if_false, Sem.run_bind, run_zeroOf hzv, Sem.run_pure, Result.andThen_ok, h1, newRow, run_newObj]
        rfl
    · refine list_of_flat hxs (Nat.le_refl _) (cs := cs') (fun k hk => ?_) (fun k y hy => ?_)
      · have hk' : k < cs'.size := by omega
        show (if w.heap.size = w.heap.size then cs'[0 + k]? else G.C w.heap.size (0 + k)) = _
        rw [if_pos rfl, Nat.zero_add, Array.getElem?_eq_getElem hk', Array.getD_eq_getD_getElem?, Array.getElem?_eq_getElem hk']; rfl
      · obtain ⟨hk, rfl⟩ := List.getElem?_eq_some_iff.mp hy
        rw [Nat.zero_add]
        exact (h5 k hk).mono hle.2

/-! ### Lengths -/

def D.asList : D → Option (List V)
  | .val (.list xs) => some xs
  | .fix xs => some xs
  | .own _ xs => some xs
  | _ => none

theorem asList_rep {C : Imm} {v : Value} {d : D} {xs : List V} (r : RepD C v d) (h : d.asList = some xs) : RepV C v (.list xs) := by
  unfold D.asList at h
  split at h <;> simp only [Option.some.injEq, reduceCtorEq] at h <;> subst h
  · cases r with | val _ _ h => exact h
  · cases r with | fix _ _ h => exact h
  · cases r with | own _ _ h => exact h

theorem rep_list_len {C : Imm} {v : Value} {xs : List V} (r : RepV C v (.list xs)) : ∃ a c, v = .slice a xs.length c ∧ xs.length ≤ c := by
  cases r with
  | empty a c => exact ⟨a, c, rfl, Nat.zero_le _⟩
  | list b f c sz xs vs hc => exact ⟨_, c, rfl, hc⟩

theorem run_call_builtin {ρ : Operand → Value} {bi : Builtin} {args : Array Operand} {at' : Array TypeId} (ho : o.op = .call { callee := .builtin bi, args := args, argTypes := at' }) {w w' : World} {n : Next}
    (h : (builtin bi at' o.type (args.map fun | .const _ => true | _ => false) (args.map ρ)).run P w = .ok n w') : (execOp ρ o).run P w = .ok n w' := by
  simp only [execOp, ho, resolve, invoke, Sem.run_bind, Sem.run_pure, Result.andThen_ok]
  exact h

theorem sl_len {t : TypeId} {x : Operand} {xs : List V} (hg : o.guard = none) (ho : o.op = .call { callee := .builtin .len, args := #[x], argTypes := #[t] })
    (hx : (evalO s x).asList = some xs) (ht : ∃ e, P.underlying t = some (.slice e))
    (c : SL P ops rest Q (sput s o.dst (.val (.int .i64 xs.length))) δ σ) : SL P ops (o :: rest) Q s δ σ :=
  sl_pure hg (fun G a w hi hr => by
    obtain ⟨e, he⟩ := ht
    obtain ⟨ad, cp, hv, _⟩ := rep_list_len (asList_rep (hr.eval x) hx)
    refine ⟨_, run_call_builtin ho ?_, rep_bin (.int _ _)⟩
    simp only [builtin, List.map_toArray, List.map_cons, List.map_nil, Builtin.len_, Sem.run_bind, hv]
    simp only [List.getElem?_toArray, List.getElem?_cons_zero, Sem.run_bind, run_under he, Result.andThen_ok, Sem.run_pure, goInt]) c

theorem sl_len_str {t : TypeId} {x : Operand} {l : List UInt8} (hg : o.guard = none) (ho : o.op = .call { callee := .builtin .len, args := #[x], argTypes := #[t] })
    (hx : evalO s x = .val (.str l)) (ht : P.underlying t = some .string)
    (c : SL P ops rest Q (sput s o.dst (.val (.int .i64 l.length))) δ σ) : SL P ops (o :: rest) Q s δ σ :=
  sl_pure hg (fun G a w hi hr => by
    have h1 := hr.eval x; rw [hx] at h1; obtain ⟨t1, e1, rfl⟩ := rep_str h1
    refine ⟨_, run_call_builtin ho ?_, rep_bin (.int _ _)⟩
    simp only [builtin, List.map_toArray, List.map_cons, List.map_nil, Builtin.len_, Sem.run_bind, e1]
    simp only [List.getElem?_toArray, List.getElem?_cons_zero, Sem.run_bind, run_under ht, Result.andThen_ok, Sem.run_pure, goInt, Array.length_toList]
    rfl) c

end rules
end Go.Proofs.YtlolmemiedhhhaaDoor.SL

/- The program logic, seventh part: append. -/

namespace Go.Proofs.YtlolmemiedhhhaaDoor.SL
set_option linter.unusedVariables false
set_option linter.unusedSimpArgs false
open Go Go.RowKit

def isInt : TypeDesc → Bool
  | .int _ => true
  | _ => false

/-- What is appended: so many elements, these cells. -/
structure Src (P : Program) (size : Nat) (x : Value) (n : Nat) (cs : Array Value) (w : World) : Prop where
  len : ∀ w', w'.heap = w.heap → (Builtin.lenOf x).run P w' = .ok n w'
  cells : ∀ w', w'.heap = w.heap → (Builtin.firstCells size n x).run P w' = .ok cs w'
  size : cs.size = n * size

theorem run_append_in {P : Program} {w w' : World} {t u ty e : TypeId} {d : TypeDesc} {sz n m c : Nat} {a : Option Addr} {x : Value} {cs : Array Value} (ht : P.underlying t = some (.slice e)) (hu : P.underlying u = some d) (hd : isInt d = false)
    (hs : szOf P e = some sz) (hx : Src P sz x m cs w) (hle : n + m ≤ c) (hst : ∀ b, a = some b → (storeCells (b.add (n * sz)) cs.toList).run P w = .ok () w') (hno : a = none → w' = w) :
    (Builtin.append_ #[t, u] ty #[.slice a n c, x]).run P w = .ok (.slice a (n + m) c) w' := by
  unfold Builtin.append_
  cases d <;> first | (simp only [isInt, reduceCtorEq] at hd; done) | skip
  all_goals
    simp only [List.getElem?_toArray, List.getElem?_cons_zero, List.getElem?_cons_succ, Sem.run_bind, run_under ht, Result.andThen_ok, run_sizeOf hs, run_under hu, Sem.run_pure, Bool.false_eq_true, if_false, hx.len w rfl]
    have hc : ¬ (c < n + m) := by omega
    simp only [hle, if_true, Bool.not_false, Sem.run_bind, hx.cells w rfl, Result.andThen_ok]
    cases a with
    | none => rw [hno rfl]; rfl
    | some b => simp only [Sem.run_bind, hst b rfl, Result.andThen_ok, Sem.run_pure]

theorem run_append_out {P : Program} {w : World} {t u ty e : TypeId} {d : TypeDesc} {n m c : Nat} {i : TypeInfo} {z : Value} {s x : Value} {cs old : Array Value} (ht : P.underlying t = some (.slice e)) (hu : P.underlying u = some d) (hd : isInt d = false)
    (hi : P.info? e = some i) (hz : i.zero = some z) (hx : Src P i.size x m cs w) {a : Option Addr} (hs : s = .slice a n c) (hold : ∀ w', w'.heap = w.heap → (Builtin.firstCells i.size n s).run P w' = .ok old w') (hgt : c < n + m)
    (hfit : (n + m) * i.bytes ≤ 140737488355328) (hb : 0 < i.bytes) :
    (Builtin.append_ #[t, u] ty #[s, x]).run P w = .ok (.slice (some ⟨w.heap.size, 0, none⟩) (n + m) (grownCap w (n + m) c e))
      (w.drew.alloc (.cells (old ++ cs ++ Builtin.zeroCells z.cells (grownCap w (n + m) c e - (n + m))) e)) := by
  subst hs
  have hsz : szOf P e = some i.size := by simp [szOf, hi]
  have hzo : zeroOf P e = some z := by simp [zeroOf, hi, hz]
  have h48 := growslice_fits (old := c) hgt hfit
  have hnm : n + m ≤ 140737488355328 := Nat.le_trans (Nat.le_mul_of_pos_right _ hb) hfit
  have hc : ¬ (n + m ≤ c) := by omega
  have hti : (typeInfo e).run P w = .ok i w := by simp [typeInfo, hi]
  have h63 : ¬ (((n + m : Nat) : Int) > IntKind.i64.max ∧ i.bytes = 0) := by omega
  have h48' : ¬ (Builtin.nextslicecap (n + m) c * i.bytes > 2 ^ 48) := by
    have : (2 : Nat) ^ 48 = 281474976710656 := by decide
    rw [this]; omega
  have hch : (choose (.appendCap (n + m) c e)).run P w = .ok (grownCap w (n + m) c e) w.drew := rfl
  have hti' : (typeInfo e).run P w.drew = .ok i w.drew := by simp [typeInfo, hi]
  unfold Builtin.append_
  cases d <;> first | (simp only [isInt, reduceCtorEq] at hd; done) | skip
  all_goals
    simp only [List.getElem?_toArray, List.getElem?_cons_zero, List.getElem?_cons_succ, Sem.run_bind, run_under ht, Result.andThen_ok, run_sizeOf hsz, run_under hu, Sem.run_pure, Bool.false_eq_true, if_false, hx.len w rfl]
    simp only [hc, if_false, Sem.run_bind, hti, Result.andThen_ok, false_or, h63, h48', hch, hti', run_askRoom, hold w.drew rfl, Bool.not_false, if_true, hx.cells w.drew rfl, run_zeroOf hzo, newRow, run_newObj, Sem.run_pure]
    rfl

theorem grownCap_ge {w : World} {need old : Nat} {e : TypeId} : need ≤ grownCap w need old e := by
  unfold grownCap Question.cut
  exact Nat.le_add_right _ _

/-- A list's cells, out of immutable memory. -/
theorem cells_of_list {C : Imm} {a : Option Addr} {n c : Nat} {xs : List V} {sz : Nat} (r : RepV C (.slice a n c) (.list xs)) (hsz : ∀ x ∈ xs, x.cells.length = sz) : n = xs.length ∧
    (xs ≠ [] → ∃ b f, a = some ⟨b, f, none⟩) ∧
    ∃ vs : Nat → Value, (∀ b f k, a = some ⟨b, f, none⟩ → k < xs.length * sz → C b (f + k) = some (vs k)) ∧ ∀ k y, (xs.flatMap V.cells)[k]? = some y → RepV C (vs k) y := by
  cases r with
  | empty => exact ⟨rfl, fun h => absurd rfl h, fun _ => undef, (fun b f k _ h => by simp at h), (fun k y h => by simp at h)⟩
  | list b f c sz' xs vs hc h3 h4 h5 =>
    refine ⟨rfl, fun _ => ⟨b, f, rfl⟩, ?_⟩
    by_cases hx : xs = []
    · subst hx
      exact ⟨fun _ => undef, (fun b f k _ h => by simp at h), (fun k y h => by simp at h)⟩
    · have hz : sz' = sz := by
        have h0 : 0 < xs.length := List.length_pos_iff.mpr hx
        rw [← h3 0 h0, hsz _ (List.getElem_mem h0)]
      subst hz
      obtain ⟨hf1, hf2⟩ := flat_get hsz
      have dm : ∀ k, k < xs.length * sz' → k / sz' < xs.length ∧ k % sz' < sz' ∧ k / sz' * sz' + k % sz' = k := fun k hk => by
        have hp : 0 < sz' := by
          rcases Nat.eq_zero_or_pos sz' with h | h
          · subst h; simp at hk
          · exact h
        exact ⟨(Nat.div_lt_iff_lt_mul hp).mpr hk, Nat.mod_lt _ hp, by rw [Nat.mul_comm]; exact Nat.div_add_mod k sz'⟩
      refine ⟨fun k => vs (k / sz') (k % sz'), fun b' f' k h hk => ?_, fun k y hy => ?_⟩
      · cases h
        obtain ⟨d1, d2, d3⟩ := dm k hk
        have := h4 (k / sz') (k % sz') d1 d2
        rw [Nat.add_assoc, d3] at this; exact this
      · obtain ⟨hk, _⟩ := List.getElem?_eq_some_iff.mp hy
        obtain ⟨d1, d2, d3⟩ := dm k (by omega)
        have hlen := h3 _ d1
        have := hf2 (k / sz') (k % sz') d1 (by omega)
        rw [d3, hy] at this
        cases this
        exact h5 _ _ d1 (by omega)

theorem src_of_list {P : Program} {G : Gh} {σ : List Chunk} {w : World} (hi : Inv G σ w) {x : Value} {ys : List V} {sz : Nat} (r : RepV G.C x (.list ys)) (hsz : ∀ y ∈ ys, y.cells.length = sz) :
    ∃ cs, Src P sz x ys.length cs w ∧ ∀ k y, (ys.flatMap V.cells)[k]? = some y → RepV G.C (cs.getD k undef) y := by
  obtain ⟨a, c, rfl, hc⟩ := rep_list_len r
  obtain ⟨_, h1, vs, h2, h3⟩ := cells_of_list r hsz
  cases a with
  | none =>
    have hy : ys = [] := by
      by_cases h : ys = []
      · exact h
      · obtain ⟨b, f, hb⟩ := h1 h; cases hb
    subst hy
    refine ⟨#[], ⟨fun w' _ => rfl, fun w' _ => run_firstCells_none .., by simp⟩, fun k y h => by simp at h⟩
  | some a =>
    have ha : ys ≠ [] → ∃ b f, a = ⟨b, f, none⟩ := fun h => by obtain ⟨b, f, hb⟩ := h1 h; cases hb; exact ⟨b, f, rfl⟩
    refine ⟨((List.range (ys.length * sz)).map vs).toArray, ⟨fun w' _ => rfl, fun w' hw => ?_, by simp⟩, fun k y hy => ?_⟩
    · simp only [Builtin.firstCells]
      refine run_loadCells w' a _ vs (fun j hj => ?_)
      have hne : ys ≠ [] := by rintro rfl; simp at hj
      obtain ⟨b, f, rfl⟩ := ha hne
      rw [addr_add]
      have := hi.agree _ _ _ (h2 b f j rfl hj)
      rw [← this]; exact World.cell?_of_block (by rw [hw])
    · obtain ⟨hk, _⟩ := List.getElem?_eq_some_iff.mp hy
      have hk' : k < ys.length * sz := by rw [← (flat_get hsz).1]; exact hk
      rw [range_getD _ _ _ hk']
      exact h3 k y hy

def byteV (b : UInt8) : V := .int .u8 b.toNat

theorem src_of_str {P : Program} {w : World} {C : Imm} (t : ByteArray) : ∃ cs, Src P 1 (.string t) (t.data.toList.map byteV).length cs w ∧
    ∀ k y, ((t.data.toList.map byteV).flatMap V.cells)[k]? = some y → RepV C (cs.getD k undef) y := by
  have hsz : (t.data.toList.map byteV).length = t.size := by simp only [List.length_map, Array.length_toList]; rfl
  refine ⟨t.data.map fun b => .int .u8 b.toNat, ⟨fun w' _ => by rw [hsz]; rfl, fun w' _ => ?_, by simp⟩, fun k y hy => ?_⟩
  · have : t.extract 0 t.size = t := by
      refine ByteArray.ext (Array.toList_inj.mp ?_)
      rw [Lib.extract_data]
      have hts : t.size = t.data.toList.length := rfl
      rw [List.drop_zero, Nat.sub_zero, hts, List.take_length]
    rw [hsz]
    simp only [Builtin.firstCells, this, Sem.run_pure]
  · have hf : (t.data.toList.map byteV).flatMap V.cells = t.data.toList.map byteV := by
      generalize t.data.toList = l
      induction l with
      | nil => rfl
      | cons b l ih => simp only [List.map_cons, List.flatMap_cons, ih]; rfl
    rw [hf] at hy
    obtain ⟨hk, rfl⟩ := List.getElem?_eq_some_iff.mp hy
    have hk' : k < t.data.size := by simpa using hk
    simp only [List.getElem_map, Array.getD_eq_getD_getElem?, Array.getElem?_map, Array.getElem?_eq_getElem hk', Option.map_some, Option.getD_some, Array.getElem_toList]
    exact .int _ _

/-! ### What is known of 'own' -/

section
variable {P : Program} {ops : Array Oper} {Q : Post} {s : Slots} {δ : Defs} {σ : List Chunk} {o : Oper} {rest : List Oper}

/-- A list without room is owned as it stands. -/
theorem sl_own {t : Nat} {sz : Nat} {xs : List V} (hs : evalO s (.tmp t) = .fix xs) (c : ∀ v, SL P ops rest Q (sput s (some t) (.own v xs)) δ (.spare v sz :: σ)) : SL P ops rest Q s δ σ := fun G a w hi hr => by
  have hv := hr.eval (.tmp t)
  rw [hs] at hv
  generalize hval : a.eval (.tmp t) = v at hv
  cases hv with
  | fix ad xs h =>
    refine c (.slice ad xs.length xs.length) G a w (hi.add ⟨ad, xs.length, xs.length, rfl, .inl rfl⟩ (fun b e => ?_) (fun b o e => ?_) (fun b e => ?_)) ?_
    · cases ad <;> simp [Chunk.b?] at e
    · cases ad <;> simp [Chunk.owns] at e
    · cases ad <;> simp [Chunk.b?] at e
    · have hlt : t < s.n := by
        by_cases h : t < s.n
        · exact h
        · rw [evalO_ge h] at hs; cases hs
      refine ⟨hr.size, fun k hk => ?_, hr.defs, hr.defd⟩
      rw [get_put]
      have hk : k < s.n := hk
      split
      · rename_i e; subst e
        have hval : a.tmps.getD t undef = _ := hval
        rw [hval]; exact .own _ _ h
      · exact hr.slot k hk

/-- The immutable heap grows by n cells of a block, from f on. -/
def Gh.grow (G : Gh) (b f n : Nat) (cs : Nat → Value) : Gh := { G with C := fun b' o => if b' = b ∧ f ≤ o ∧ o < f + n then some (cs o) else G.C b' o }

theorem Gh.grow_le {G : Gh} {b f n : Nat} {cs : Nat → Value} (h : ∀ o, f ≤ o → o < f + n → G.C b o = none) : G.le (G.grow b f n cs) :=
  ⟨rfl, fun b' o v hv => by
    show (if b' = b ∧ f ≤ o ∧ o < f + n then some (cs o) else G.C b' o) = some v
    split
    · rename_i e; obtain ⟨rfl, h1, h2⟩ := e; rw [h o h1 h2] at hv; cases hv
    · exact hv⟩

theorem flat_append (xs ys : List V) : (xs ++ ys).flatMap V.cells = xs.flatMap V.cells ++ ys.flatMap V.cells := List.flatMap_append ..

/-- How append has gone: nothing was appended; in place; into a new block. -/
def AppInfo (G G' : Gh) (w w' : World) (v v' : Value) (sz m : Nat) (e : TypeId) : Prop :=
  (v' = v ∧ w' = w ∧ G' = G) ∨ (∃ a n c cells cells' bty fz, v = .slice (some a) n c ∧ v' = .slice (some a) (n + m) c ∧ n + m ≤ c ∧ n < c ∧ w.heap[a.block]? = some (.cells cells bty fz) ∧ w'.heap[a.block]? = some (.cells cells' bty fz) ∧ cells'.size = cells.size ∧
      ∀ o, a.off + (n + m) * sz ≤ o → G.C a.block o = none → G'.C a.block o = none) ∨
    ∃ k cap cells, v' = .slice (some ⟨w.heap.size, 0, none⟩) k cap ∧ k ≤ cap ∧ 0 < cap ∧ w'.heap[w.heap.size]? = some (.cells cells e (0, 0)) ∧ cap * sz ≤ cells.size ∧ ∀ o, k * sz ≤ o → G'.C w.heap.size o = none

/-- The heart of append: world, ghost and room behind it. -/
theorem append_core' {G : Gh} {w : World} {t u ty e : TypeId} {d : TypeDesc} {i : TypeInfo} {z v x : Value} {xs ys : List V} {cs : Array Value}
    (hi : Inv G (.spare v i.size :: σ) w) (hv : RepV G.C v (.list xs)) (ht : P.underlying t = some (.slice e)) (hu : P.underlying u = some d) (hd : isInt d = false)
    (hin : P.info? e = some i) (hz : i.zero = some z) (hsz : 0 < i.size) (hb : 0 < i.bytes) (hxs : ∀ x ∈ xs, x.cells.length = i.size) (hys : ∀ y ∈ ys, y.cells.length = i.size)
    (hcell : ∀ v y, RepV G.C v y → y ∈ ys.flatMap V.cells → v.oneCell' = true)
    (hx : Src P i.size x ys.length cs w) (hcs : ∀ k y, (ys.flatMap V.cells)[k]? = some y → RepV G.C (cs.getD k undef) y) (hfit : (xs.length + ys.length) * i.bytes ≤ 140737488355328) (hzs : z.cells.size = i.size) :
    ∃ v' w' G', (Builtin.append_ #[t, u] ty #[v, x]).run P w = .ok v' w' ∧ G.le G' ∧ Inv G' (.spare v' i.size :: σ) w' ∧ RepV G'.C v' (.list (xs ++ ys)) ∧ AppInfo G G' w w' v v' i.size ys.length e := by
  obtain ⟨a, n, c, hva, hroom⟩ := hi.holds _ (List.mem_cons_self ..)
  subst hva
  obtain ⟨rfl, hpos, vs, hC, hrep⟩ := cells_of_list hv hxs
  have hs' : szOf P e = some i.size := by simp [szOf, hin]
  have hall : ∀ x ∈ xs ++ ys, x.cells.length = i.size := fun x hx => by
    rcases List.mem_append.mp hx with h | h
    · exact hxs x h
    · exact hys x h
  have hfx := (flat_get hxs).1
  have hfy := (flat_get hys).1
  by_cases hle : xs.length + ys.length ≤ c
  · rcases hroom with hcap | ⟨b, f, cells, bty, fz, rfl, hlt, hblk, hfz, hsize⟩
    · -- no room, nothing to append
      have hy0 : ys = [] := List.eq_nil_of_length_eq_zero (by omega)
      subst hy0
      have hcs0 : cs = #[] := by have := hx.size; simp at this; exact this
      subst hcs0
      refine ⟨.slice a xs.length c, w, G, ?_, G.le_refl, hi, by rw [List.append_nil]; exact hv, .inl ⟨rfl, rfl, rfl⟩⟩
      exact run_append_in ht hu hd hs' hx (by simpa using hle) (fun b _ => rfl) (fun _ => rfl)
    · have hone : ∀ u ∈ cs.toList, u.oneCell' = true := by
        intro u hu
        obtain ⟨k, hk, rfl⟩ := List.getElem_of_mem hu
        have hk1 : k < cs.size := by simpa using hk
        have hk2 : k < (ys.flatMap V.cells).length := by rw [hfy, ← hx.size]; exact hk1
        have := hcs k _ (List.getElem?_eq_getElem hk2)
        simp only [Array.getD_eq_getD_getElem?, Array.getElem?_eq_getElem hk1, Option.getD_some] at this
        simpa using hcell _ _ this (List.getElem_mem hk2)
      have hmul : (xs.length + ys.length) * i.size ≤ c * i.size := Nat.mul_le_mul_right _ hle
      rw [Nat.add_mul] at hmul
      have hcl : cs.toList.length = ys.length * i.size := by rw [Array.length_toList, hx.size]
      obtain ⟨w', cells', g1, g2, g3, g4, g5, g6, g7, g8, g9, g10⟩ := run_storeCells (P := P) cs.toList 0 w b (f + xs.length * i.size) cells bty fz hblk hfz (by omega) hone
      simp only [Nat.add_zero] at g4 g5
      have hown : ∀ o, f + xs.length * i.size ≤ o → G.C b o = none := fun o ho =>
        hi.apart (.spare (.slice (some ⟨b, f, none⟩) xs.length c) i.size) (List.mem_cons_self ..) b o ⟨by omega, rfl, ho⟩
      have hGle : G.le (G.grow b (f + xs.length * i.size) (ys.length * i.size) fun o => cells'.getD o undef) := Gh.grow_le fun o h1 _ => hown o h1
      refine ⟨.slice (some ⟨b, f, none⟩) (xs.length + ys.length) c, w', _, run_append_in ht hu hd hs' hx hle (fun b' hb' => ?_) (fun h => by cases h), hGle, ?_, ?_, .inr (.inl ⟨⟨b, f, none⟩, xs.length, c, cells, cells', bty, fz, rfl, rfl, hle, hlt, hblk, g2, g3, fun o ho hn => ?_⟩)⟩
      rotate_left 3
      · show (if b = b ∧ f + xs.length * i.size ≤ o ∧ o < f + xs.length * i.size + ys.length * i.size then _ else G.C b o) = none
        have ho' : f + (xs.length + ys.length) * i.size ≤ o := ho
        rw [Nat.add_mul] at ho'
        rw [if_neg (by omega)]; exact hn
      · cases hb'; rw [addr_add]; exact g1
      · refine hi.change (b := b) (by simp only [Chunk.b?]; rw [if_neg (by omega)]) (fun y hy => ?_) hGle (fun y o v hv => ?_) g6 g7 g8 g9 g10 (fun o v hv => ?_) ?_ (fun y o hy => ?_) (fun t0 c0 f0 h0 => by rw [hblk] at h0; cases h0; exact ⟨_, _, g2, g3⟩)
        · simp only [Chunk.b?] at hy
          split at hy <;> simp at hy
          exact hy.symm
        · change (if y = b ∧ _ then some _ else G.C y o) = some v at hv
          split at hv
          · rename_i e; obtain ⟨rfl, h1, h2⟩ := e
            exact .inr ⟨by omega, rfl, h1⟩
          · exact .inl hv
        · change (if b = b ∧ _ then some _ else G.C b o) = some v at hv
          have hcell' : ∀ o, o < cells'.size → w'.cell? ⟨b, o, none⟩ = some (cells'.getD o undef) := fun o ho => by
            simp only [World.cell?, g2, Array.getElem?_eq_getElem ho, Array.getD_eq_getD_getElem?, Option.getD_some]; rfl
          split at hv
          · rename_i e; obtain ⟨_, h1, h2⟩ := e
            cases hv
            exact hcell' o (by omega)
          · have h3 := hi.agree b o v hv
            simp only [World.cell?, hblk] at h3
            obtain ⟨ho, hoe⟩ := Array.getElem?_eq_some_iff.mp h3
            have ho' : o < f + xs.length * i.size := by
              rcases Nat.lt_or_ge o (f + xs.length * i.size) with h | h
              · exact h
              · rw [hown o h] at hv; cases hv
            rw [hcell' o (by omega), g5 o (by omega)]
            simp only [Array.getD_eq_getD_getElem?, Array.getElem?_eq_getElem ho, Option.getD_some]
            rw [← hoe]
        · refine ⟨_, _, _, rfl, ?_⟩
          by_cases hfull : xs.length + ys.length = c
          · exact .inl hfull
          · exact .inr ⟨b, f, cells', bty, fz, rfl, by omega, g2, by rw [g3]; exact hfz, by rw [g3]; exact hsize⟩
        · obtain ⟨h1, hyb, h2⟩ := hy
          have hyb : y = b := hyb
          subst hyb
          change f + (xs.length + ys.length) * i.size ≤ o at h2
          rw [Nat.add_mul] at h2
          show (if _ ∧ f + xs.length * i.size ≤ o ∧ o < f + xs.length * i.size + ys.length * i.size then some _ else G.C y o) = none
          rw [if_neg (by omega)]
          exact hown o (by omega)
      · have : xs.length + ys.length = (xs ++ ys).length := by simp
        rw [this]
        have hflat : ∀ k, k < xs.length * i.size → (G.grow b (f + xs.length * i.size) (ys.length * i.size) fun o => cells'.getD o undef).C b (f + k) = some (cells'.getD (f + k) undef) := fun k hk => by
          have h1 := hC b f k rfl hk
          have h2 := hi.agree _ _ _ h1
          simp only [World.cell?, hblk] at h2
          obtain ⟨ho, hoe⟩ := Array.getElem?_eq_some_iff.mp h2
          rw [hGle.2 _ _ _ h1, g5 (f + k) (by omega)]
          simp only [Array.getD_eq_getD_getElem?, Array.getElem?_eq_getElem ho, Option.getD_some, hoe]
        have hval : ∀ k, k < xs.length * i.size → vs k = cells'.getD (f + k) undef := fun k hk => by
          have h1 := hflat k hk
          rw [hGle.2 _ _ _ (hC b f k rfl hk)] at h1
          exact Option.some.inj h1
        refine list_of_flat (cs := cells') hall (by simpa using hle) (fun k hk => ?_) (fun k y hy => ?_)
        · simp only [List.length_append, Nat.add_mul] at hk
          by_cases h1 : k < xs.length * i.size
          · exact hflat k h1
          · show (if b = b ∧ f + xs.length * i.size ≤ f + k ∧ f + k < f + xs.length * i.size + ys.length * i.size then some (cells'.getD (f + k) undef) else _) = _
            rw [if_pos ⟨rfl, by omega, by omega⟩]
        · rw [flat_append] at hy
          by_cases h1 : k < xs.length * i.size
          · rw [List.getElem?_append_left (by omega)] at hy
            rw [← hval k h1]
            exact (hrep k y hy).mono hGle.2
          · rw [List.getElem?_append_right (by omega)] at hy
            have hk2 : k - (xs.flatMap V.cells).length < (ys.flatMap V.cells).length := (List.getElem?_eq_some_iff.mp hy).1
            have := g4 (k - xs.length * i.size) (by omega)
            rw [show f + xs.length * i.size + (k - xs.length * i.size) = f + k by omega] at this
            rw [this]
            rw [hfx] at hy
            have := (hcs _ _ hy).mono hGle.2
            simpa [List.getD] using this
  · -- a new block
    have hgt : c < xs.length + ys.length := by omega
    obtain ⟨old, hold⟩ := src_of_list (P := P) hi hv hxs
    have hrun := run_append_out (ty := ty) ht hu hd hin hz hx (s := .slice a xs.length c) rfl (old := old) (fun w' hw => hold.1.cells w' hw) hgt hfit hb
    have hge : xs.length + ys.length ≤ grownCap w (xs.length + ys.length) c e := grownCap_ge
    generalize hcap : grownCap w (xs.length + ys.length) c e = cap at hrun hge
    generalize hnew : old ++ cs ++ Builtin.zeroCells z.cells (cap - (xs.length + ys.length)) = cells at hrun
    have hos : old.size = xs.length * i.size := hold.1.size
    have hcsz : cs.size = ys.length * i.size := hx.size
    have hi1 : Inv G σ w.drew := hi.drop.drew
    have hi2 : Inv G σ (w.drew.alloc (.cells cells e)) := hi1.of_below (Below.alloc (Below.refl _ _) (Nat.le_refl _) _)
    have hnone : ∀ o, G.C w.heap.size o = none := fun o => hi.nothing_new o
    have hnew' : (w.drew.alloc (.cells cells e)).heap[w.heap.size]? = some (.cells cells e) := heap_new w.drew _
    have hGle : G.le (G.grow w.heap.size 0 ((xs.length + ys.length) * i.size) fun o => cells.getD o undef) := Gh.grow_le fun o _ _ => hnone o
    have hget : ∀ k, k < (xs.length + ys.length) * i.size → k < cells.size ∧ cells.getD k undef = (old ++ cs).getD k undef := fun k hk => by
      rw [Nat.add_mul] at hk
      rw [← hnew]
      refine ⟨by simp only [Array.size_append]; omega, ?_⟩
      simp only [Array.getD_eq_getD_getElem?]
      rw [Array.getElem?_append_left (by simp only [Array.size_append]; omega)]
    have hi3 : Inv (G.grow w.heap.size 0 ((xs.length + ys.length) * i.size) fun o => cells.getD o undef) σ (w.drew.alloc (.cells cells e)) := by
      refine ⟨hi2.below, fun b o v hv => ?_, fun x hx => Chunk.holds_of_block hGle.2 (fun _ _ => rfl) (hi2.holds x hx) (.refl _), hi2.nodup, fun x hx y o hy => ?_, hi2.fresh⟩
      · change (if b = w.heap.size ∧ _ then some _ else G.C b o) = some v at hv
        split at hv
        · rename_i e; obtain ⟨rfl, h1, h2⟩ := e
          cases hv
          obtain ⟨h3, _⟩ := hget o (by omega)
          simp only [World.cell?, hnew', Array.getElem?_eq_getElem h3, Array.getD_eq_getD_getElem?, Option.getD_some]; rfl
        · exact hi2.agree b o v hv
      · have hne : y ≠ w.heap.size := fun e => by
          have := Chunk.holds_lt (hi1.holds x hx) (Chunk.owns_b hy)
          simp at this; omega
        show (if y = w.heap.size ∧ _ then some _ else G.C y o) = none
        rw [if_neg (fun h => hne h.1)]
        exact hi2.apart x hx y o hy
    have hcsize : cap * i.size ≤ cells.size := by
      rw [← hnew]
      simp only [Array.size_append, hos, hcsz, Builtin.zeroCells, Array.size_map, Array.size_range, hzs, ← Nat.add_mul]
      rw [show xs.length + ys.length + (cap - (xs.length + ys.length)) = cap by omega]
      exact Nat.le_refl _
    refine ⟨_, _, _, hrun, hGle, hi3.add ⟨_, _, _, rfl, ?_⟩ (fun b hb x hx hxb => ?_) (fun b o hb => ?_) (fun b hb => ?_), ?_, .inr (.inr ⟨_, cap, cells, rfl, hge, by omega, hnew', hcsize, fun o ho => ?_⟩)⟩
    rotate_left 5
    · show (if _ ∧ _ ∧ o < 0 + (xs.length + ys.length) * i.size then some _ else G.C w.heap.size o) = none
      rw [if_neg (by simp only [Nat.zero_add]; omega)]
      exact hnone o
    · by_cases hfull : xs.length + ys.length = cap
      · exact .inl hfull
      · refine .inr ⟨w.heap.size, 0, cells, e, (0, 0), rfl, by omega, hnew', by intro o _ hh; omega, ?_⟩
        rw [← hnew]
        simp only [Array.size_append, hos, hcsz, Builtin.zeroCells, Array.size_map, Array.size_range, Nat.zero_add, hzs, ← Nat.add_mul]
        rw [show xs.length + ys.length + (cap - (xs.length + ys.length)) = cap by omega]
        exact Nat.le_refl _
    · have : b = w.heap.size := by
        simp only [Chunk.b?] at hb
        split at hb <;> simp at hb
        exact hb.symm
      subst this
      have := Chunk.holds_lt (hi1.holds x hx) hxb
      simp at this
    · obtain ⟨h1, rfl, h2⟩ := hb
      show (if _ ∧ _ ∧ o < 0 + (xs.length + ys.length) * i.size then some _ else G.C w.heap.size o) = none
      simp only [Nat.zero_add] at h2
      rw [if_neg (by simp only [Nat.zero_add]; omega)]
      exact hnone o
    · have : b = w.heap.size := by
        simp only [Chunk.b?] at hb
        split at hb <;> simp at hb
        exact hb.symm
      subst this
      exact hi.below.size
    · have : xs.length + ys.length = (xs ++ ys).length := by simp
      have hn : (xs ++ ys).length ≤ cap := by rw [← this]; exact hge
      have hl := list_of_flat (b := w.heap.size) (f := 0) (cs := cells) hall hn (C := (G.grow w.heap.size 0 ((xs.length + ys.length) * i.size) fun o => cells.getD o undef).C) (fun k hk => ?_) (fun k y hy => ?_)
      · rw [← this] at hl; exact hl
      · rw [← this] at hk
        show (if w.heap.size = w.heap.size ∧ 0 ≤ 0 + k ∧ 0 + k < 0 + (xs.length + ys.length) * i.size then some (cells.getD (0 + k) undef) else _) = _
        rw [if_pos ⟨rfl, by omega, by omega⟩]
      · have hk2 := (List.getElem?_eq_some_iff.mp hy).1
        rw [flat_append, List.length_append, hfx, hfy, ← Nat.add_mul] at hk2
        rw [Nat.zero_add, (hget k hk2).2]
        rw [flat_append] at hy
        simp only [Array.getD_eq_getD_getElem?]
        by_cases h1 : k < xs.length * i.size
        · rw [List.getElem?_append_left (by omega)] at hy
          rw [Array.getElem?_append_left (by omega)]
          have := (hold.2 k y hy).mono hGle.2
          simpa only [Array.getD_eq_getD_getElem?] using this
        · rw [List.getElem?_append_right (by omega), hfx] at hy
          rw [Array.getElem?_append_right (by omega), hos]
          have := (hcs _ y hy).mono hGle.2
          simpa only [Array.getD_eq_getD_getElem?] using this

theorem append_core {G : Gh} {w : World} {t u ty e : TypeId} {d : TypeDesc} {i : TypeInfo} {z v x : Value} {xs ys : List V} {cs : Array Value}
    (hi : Inv G (.spare v i.size :: σ) w) (hv : RepV G.C v (.list xs)) (ht : P.underlying t = some (.slice e)) (hu : P.underlying u = some d) (hd : isInt d = false)
    (hin : P.info? e = some i) (hz : i.zero = some z) (hsz : 0 < i.size) (hb : 0 < i.bytes) (hxs : ∀ x ∈ xs, x.cells.length = i.size) (hys : ∀ y ∈ ys, y.cells.length = i.size)
    (hcell : ∀ v y, RepV G.C v y → y ∈ ys.flatMap V.cells → v.oneCell' = true)
    (hx : Src P i.size x ys.length cs w) (hcs : ∀ k y, (ys.flatMap V.cells)[k]? = some y → RepV G.C (cs.getD k undef) y) (hfit : (xs.length + ys.length) * i.bytes ≤ 140737488355328) (hzs : z.cells.size = i.size) :
    ∃ v' w' G', (Builtin.append_ #[t, u] ty #[v, x]).run P w = .ok v' w' ∧ G.le G' ∧ Inv G' (.spare v' i.size :: σ) w' ∧ RepV G'.C v' (.list (xs ++ ys)) := by
  obtain ⟨v', w', G', h1, h2, h3, h4, _⟩ := append_core' (ty := ty) hi hv ht hu hd hin hz hsz hb hxs hys hcell hx hcs hfit hzs
  exact ⟨v', w', G', h1, h2, h3, h4⟩

/-- What append asks of an element type. -/
structure ElemOk (P : Program) (e : TypeId) (sz bytes : Nat) : Prop where
  ex : ∃ i z, P.info? e = some i ∧ i.zero = some z ∧ i.size = sz ∧ i.bytes = bytes ∧ z.cells.size = sz
  size : 0 < sz
  bytes : 0 < bytes

/-- The same by one closed equation. -/
def elOf (P : Program) (e : TypeId) : Option (Nat × Nat) :=
  match P.info? e with
  | some i => match i.zero with
    | some z => if z.cells.size = i.size ∧ 0 < i.size ∧ 0 < i.bytes then some (i.size, i.bytes) else none
    | none => none
  | none => none

theorem elOf_ok {P : Program} {e : TypeId} {sz bytes : Nat} (h : elOf P e = some (sz, bytes)) : ElemOk P e sz bytes := by
  unfold elOf at h
  split at h
  · rename_i i hi
    split at h
    · rename_i z hz
      split at h
      · rename_i hc
        cases h
        exact ⟨⟨i, z, hi, hz, rfl, rfl, hc.1⟩, hc.2.1, hc.2.2⟩
      · cases h
    · cases h
  · cases h

/-- No struct within a struct's cells. -/
def V.flat : V → Bool
  | .agg xs => xs.all fun x => match x with | .agg _ => false | _ => true
  | _ => true

theorem flat_cell {C : Imm} {v : Value} {y : V} {ys : List V} (h : ∀ y ∈ ys, y.flat = true) (r : RepV C v y) (hy : y ∈ ys.flatMap V.cells) : v.oneCell' = true := by
  obtain ⟨z, hz, hyz⟩ := List.mem_flatMap.mp hy
  have hf := h z hz
  cases r with
  | agg vs xs h1 h2 =>
    cases z <;> simp only [V.cells, List.mem_singleton, reduceCtorEq] at hyz
    rename_i zs
    simp only [V.flat, List.all_eq_true] at hf
    exact absurd (hf _ hyz) (by simp)
  | _ => rfl

/-- append: a list to an owned list. -/
theorem sl_append {t u e : TypeId} {x y : Operand} {v : Value} {xs ys : List V} {sz bytes : Nat} (hg : o.guard = none) (ho : o.op = .call { callee := .builtin .append, args := #[x, y], argTypes := #[t, u] })
    (hx : evalO s x = .own v xs) (hy : (evalO s y).asList = some ys) (ht : P.underlying t = some (.slice e)) (hu : ∃ d, P.underlying u = some d ∧ isInt d = false)
    (he : elOf P e = some (sz, bytes)) (hxs : ∀ x ∈ xs, x.cells.length = sz) (hys : ∀ y ∈ ys, y.cells.length = sz ∧ y.flat = true)
    (hfit : (xs.length + ys.length) * bytes ≤ 140737488355328)
    (c : ∀ v', SL P ops rest Q (sput s o.dst (.own v' (xs ++ ys))) δ (.spare v' sz :: σ)) : SL P ops (o :: rest) Q s δ (.spare v sz :: σ) :=
  sl_op hg fun G a w hi hr => by
    obtain ⟨⟨i, z, h1, h2, rfl, rfl, h3⟩, h4, h5⟩ := elOf_ok he
    obtain ⟨d, hd1, hd2⟩ := hu
    have r1 := hr.eval x; rw [hx] at r1
    generalize hv : a.eval x = vx at r1
    cases r1 with
    | own _ _ r1 =>
      obtain ⟨cs, hsrc, hcs⟩ := src_of_list (P := P) hi (asList_rep (hr.eval y) hy) (fun y hy => (hys y hy).1)
      obtain ⟨v', w', G', g1, g2, g3, g4⟩ := append_core (ty := o.type) hi r1 ht hd1 hd2 h1 h2 h4 h5 hxs (fun y hy => (hys y hy).1)
        (fun v y r hy' => flat_cell (fun z hz => (hys z hz).2) r hy') hsrc hcs hfit h3
      refine ⟨v', w', G', .own v' (xs ++ ys), .spare v' i.size :: σ, run_call_builtin ho ?_, g2, g3, .own _ _ g4, c v'⟩
      simp only [builtin, List.map_toArray, List.map_cons, List.map_nil, Sem.run_bind, hv, g1, Result.andThen_ok, Sem.run_pure]

theorem byteV_cells (l : List UInt8) : ∀ y ∈ l.map byteV, y.cells.length = 1 ∧ y.flat = true := by
  intro y hy
  obtain ⟨b, _, rfl⟩ := List.mem_map.mp hy
  exact ⟨rfl, rfl⟩

/-- append: a text's bytes to an owned list of bytes. -/
theorem sl_append_str {t u e : TypeId} {x y : Operand} {v : Value} {xs : List V} {l : List UInt8} {bytes : Nat} (hg : o.guard = none) (ho : o.op = .call { callee := .builtin .append, args := #[x, y], argTypes := #[t, u] })
    (hx : evalO s x = .own v xs) (hy : evalO s y = .val (.str l)) (ht : P.underlying t = some (.slice e)) (hu : P.underlying u = some .string)
    (he : elOf P e = some (1, bytes)) (hxs : ∀ x ∈ xs, x.cells.length = 1) (hfit : (xs.length + l.length) * bytes ≤ 140737488355328)
    (c : ∀ v', SL P ops rest Q (sput s o.dst (.own v' (xs ++ l.map byteV))) δ (.spare v' 1 :: σ)) : SL P ops (o :: rest) Q s δ (.spare v 1 :: σ) :=
  sl_op hg fun G a w hi hr => by
    obtain ⟨⟨i, z, h1, h2, h6, rfl, h3⟩, h4, h5⟩ := elOf_ok he
    have r1 := hr.eval x; rw [hx] at r1
    have r2 := hr.eval y; rw [hy] at r2; obtain ⟨t1, e2, rfl⟩ := rep_str r2
    generalize hv : a.eval x = vx at r1
    cases r1 with
    | own _ _ r1 =>
      obtain ⟨cs, hsrc, hcs⟩ := src_of_str (P := P) (w := w) (C := G.C) t1
      rw [← h6] at hi hsrc hxs h3
      obtain ⟨v', w', G', g1, g2, g3, g4⟩ := append_core (ty := o.type) hi r1 ht hu rfl h1 h2 (by omega) h5 hxs (fun y hy => by rw [h6]; exact (byteV_cells _ y hy).1)
        (fun v y r hy' => flat_cell (fun z hz => (byteV_cells _ z hz).2) r hy') hsrc hcs (by simpa only [List.length_map] using hfit) h3
      rw [h6] at g3
      refine ⟨v', w', G', .own v' (xs ++ t1.data.toList.map byteV), .spare v' 1 :: σ, run_call_builtin ho ?_, g2, g3, .own _ _ g4, c v'⟩
      simp only [builtin, List.map_toArray, List.map_cons, List.map_nil, Sem.run_bind, hv, e2, g1, Result.andThen_ok, Sem.run_pure]

end
end Go.Proofs.YtlolmemiedhhhaaDoor.SL
