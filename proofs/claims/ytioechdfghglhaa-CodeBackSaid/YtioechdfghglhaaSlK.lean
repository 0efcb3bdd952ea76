/- The program logic, tenth part: what a statement's arguments read as. -/
import Derived.Test.YtioechdfghglhaaSlI
import GoSem.ClaimChange
namespace Go.Proofs.Ytioechdfghglhaa.SL
set_option linter.unusedVariables false
set_option linter.unusedSimpArgs false
open Go Go.RowKit

/-- All that there is when the law is called is immutable for it. -/
def memC (W : World) : Imm := fun b o => W.cell? ⟨b, o, none⟩

theorem inv_start (W : World) : Inv ⟨W, memC W⟩ [] W :=
  ⟨Below.refl _ _, fun _ _ _ h => h, fun _ h => absurd h (by simp), by simp, fun _ h => absurd h (by simp), fun _ h => absurd h (by simp)⟩

/-- A law's contract as the statement wants it. -/
theorem law_calls {P : Program} {f : FuncId} {ds : List D} (h : FSpec P f ds [] fun d _ => d = .val (.bool true)) {W : World} {vs : Array Value} (hr : RepDs (memC W) vs ds) :
    Calls P f vs W fun e w' => e = .returned (.bool true) ∧ Below W.heap.size W w' :=
  (h ⟨W, memC W⟩ vs W (inv_start W) hr).mono fun e w' he => by
    cases e with
    | returned v =>
      obtain ⟨G', d, σ', h1, h2, h3, rfl⟩ := he
      refine ⟨by rw [rep_bool h3], ?_⟩
      have := h2.below
      rw [h1.1] at this; exact this
    | panicked ch => obtain ⟨_, _, _, _, h⟩ := he; exact h.elim
    | outgrown => exact he.elim

/-- Whatever the reading tells of cells at type t, there are data that they read as, of this make. -/
def Covers (P : Program) (n : Nat) (t : TypeId) (S : List V → Prop) : Prop :=
  ∀ (H : Type) (enc : TypeId × Value → H) (W : World) (sp : Nat → Bool) (held : Bool) (cs : List Value) (d : DataW H) (ps : List MemPlace), DataW.trod enc P W 0 sp held n t cs = some (d, ps) →
    ∃ xs, S xs ∧ cs.length = xs.length ∧ ∀ k (hk : k < xs.length), RepV (memC W) (cs.getD k undef) xs[k]

theorem Covers.mono {P : Program} {n : Nat} {t : TypeId} {S S' : List V → Prop} (h : Covers P n t S) (hs : ∀ xs, S xs → S' xs) : Covers P n t S' := fun H enc W sp held cs d ps e => by
  obtain ⟨xs, h1, h2⟩ := h H enc W sp held cs d ps e
  exact ⟨xs, hs xs h1, h2⟩

theorem covers_zero {P : Program} {t : TypeId} {S : List V → Prop} : Covers P 0 t S := fun H enc W sp held cs d ps h => by simp [DataW.trod] at h

theorem rep_single {C : Imm} {v : Value} {x : V} (h : RepV C v x) : [v].length = [x].length ∧ ∀ k (hk : k < [x].length), RepV C ([v].getD k undef) [x][k] := by
  refine ⟨rfl, fun k hk => ?_⟩
  have : k = 0 := by simpa using hk
  subst this; exact h

theorem inv_bool {P : Program} {n : Nat} {t : TypeId} {H : Type} {enc : TypeId × Value → H} {W : World} {sp : Nat → Bool} {held : Bool} {cs : List Value} {x : DataW H × List MemPlace} (ht : P.underlying t = some .bool)
    (h : DataW.trod enc P W 0 sp held (n + 1) t cs = some x) : ∃ b, cs = [.bool b] := by
  match cs with
  | [] => simp [DataW.trod, ht] at h
  | [v] =>
    cases v with
    | bool b => exact ⟨b, rfl⟩
    | _ => simp [DataW.trod, ht] at h
  | _ :: _ :: _ => simp [DataW.trod, ht] at h

theorem inv_int {P : Program} {n : Nat} {t : TypeId} {k : IntKind} {H : Type} {enc : TypeId × Value → H} {W : World} {sp : Nat → Bool} {held : Bool} {cs : List Value} {x : DataW H × List MemPlace} (ht : P.underlying t = some (.int k))
    (h : DataW.trod enc P W 0 sp held (n + 1) t cs = some x) : ∃ i, cs = [.int k i] ∧ (Lit.int k i).wf = true := by
  match cs with
  | [] => simp [DataW.trod, ht] at h
  | [v] =>
    cases v with
    | int k' i =>
      simp only [DataW.trod, ht] at h
      split at h
      · rename_i hc; obtain ⟨rfl, hw⟩ := hc; exact ⟨i, rfl, hw⟩
      · cases h
    | _ => simp [DataW.trod, ht] at h
  | _ :: _ :: _ => simp [DataW.trod, ht] at h

theorem inv_str {P : Program} {n : Nat} {t : TypeId} {H : Type} {enc : TypeId × Value → H} {W : World} {sp : Nat → Bool} {held : Bool} {cs : List Value} {x : DataW H × List MemPlace} (ht : P.underlying t = some .string)
    (h : DataW.trod enc P W 0 sp held (n + 1) t cs = some x) : ∃ b : ByteArray, cs = [.string b] ∧ b.size ≤ maxLen := by
  match cs with
  | [] => simp [DataW.trod, ht] at h
  | [v] =>
    cases v with
    | string b =>
      simp only [DataW.trod, ht] at h
      split at h
      · rename_i hc; exact ⟨b, rfl, hc⟩
      · cases h
    | _ => simp [DataW.trod, ht] at h
  | _ :: _ :: _ => simp [DataW.trod, ht] at h

theorem inv_slice {P : Program} {n : Nat} {t e : TypeId} {H : Type} {enc : TypeId × Value → H} {W : World} {sp : Nat → Bool} {held : Bool} {cs : List Value} {x : DataW H × List MemPlace} (ht : P.underlying t = some (.slice e))
    (h : DataW.trod enc P W 0 sp held (n + 1) t cs = some x) : cs = [.slice none 0 0] ∨ ∃ a len cap elems, cs = [.slice (some a) len cap] ∧ len ≤ cap ∧ cap ≤ maxLen ∧
      ((List.range len).mapM fun i => (W.cells? 0 (a.add (i * P.cellsOf e)) (P.cellsOf e)).bind (DataW.trod enc P W 0 sp held n e)) = some elems := by
  match cs with
  | [] => simp [DataW.trod, ht] at h
  | [v] =>
    cases v with
    | slice ad len cap =>
      cases ad with
      | none =>
        cases len <;> cases cap <;> first | exact .inl rfl | simp [DataW.trod, ht] at h
      | some a =>
        simp only [DataW.trod, ht] at h
        split at h
        · rename_i hc
          obtain ⟨elems, he, _⟩ := Option.bind_eq_some_iff.mp h
          exact .inr ⟨a, len, cap, elems, rfl, hc.2.1, hc.2.2, he⟩
        · cases h
    | _ => simp [DataW.trod, ht] at h
  | _ :: _ :: _ => simp [DataW.trod, ht] at h

theorem covers_bool {P : Program} {n : Nat} {t : TypeId} (ht : P.underlying t = some .bool) : Covers P n t fun xs => ∃ b, xs = [.bool b] := fun H enc W sp held cs d ps h => by
  cases n with
  | zero => simp [DataW.trod] at h
  | succ n =>
    obtain ⟨b, rfl⟩ := inv_bool ht h
    exact ⟨[.bool b], ⟨b, rfl⟩, rep_single (.bool b)⟩

theorem covers_int {P : Program} {n : Nat} {t : TypeId} {k : IntKind} (ht : P.underlying t = some (.int k)) : Covers P n t fun xs => ∃ i, xs = [.int k i] ∧ k.min ≤ i ∧ i ≤ k.max := fun H enc W sp held cs d ps h => by
  cases n with
  | zero => simp [DataW.trod] at h
  | succ n =>
    obtain ⟨i, rfl, hw⟩ := inv_int ht h
    refine ⟨[.int k i], ⟨i, rfl, ?_⟩, rep_single (.int k i)⟩
    simpa [Lit.wf] using hw

theorem covers_str {P : Program} {n : Nat} {t : TypeId} (ht : P.underlying t = some .string) : Covers P n t fun xs => ∃ l : List UInt8, xs = [.str l] ∧ l.length ≤ maxLen := fun H enc W sp held cs d ps h => by
  cases n with
  | zero => simp [DataW.trod] at h
  | succ n =>
    obtain ⟨b, rfl, hw⟩ := inv_str ht h
    refine ⟨[.str b.data.toList], ⟨b.data.toList, rfl, ?_⟩, rep_single (.str b)⟩
    rw [Array.length_toList]; exact hw

theorem mapM_get {α β : Type} {f : α → Option β} : ∀ {l : List α} {r : List β}, l.mapM f = some r → r.length = l.length ∧ ∀ k (h : k < l.length) (h' : k < r.length), f l[k] = some r[k]
  | [], r, h => by simp at h; subst h; exact ⟨rfl, fun k h => absurd h (by simp)⟩
  | x :: l, r, h => by
    simp only [List.mapM_cons, Option.bind_eq_bind, Option.bind_eq_some_iff] at h
    obtain ⟨y, hy, ys, hys, h⟩ := h
    cases h
    obtain ⟨h1, h2⟩ := mapM_get hys
    refine ⟨by simp [h1], fun k hk hk' => ?_⟩
    cases k with
    | zero => exact hy
    | succ k => exact h2 k _ _

theorem cells_get {w : World} {a : Addr} {n : Nat} {cs : List Value} (h : w.cells? 0 a n = some cs) : cs.length = n ∧ ∀ k (hk : k < cs.length), w.cell? (a.add k) = some cs[k] := by
  unfold World.cells? at h
  rw [if_pos (Nat.zero_le _)] at h
  obtain ⟨h1, h2⟩ := mapM_get h
  refine ⟨by simpa using h1, fun k hk => ?_⟩
  have := h2 k (by rw [← h1]; exact hk) hk
  simpa using this

theorem spot_of_cell {w : World} {a : Addr} {v : Value} (h : w.cell? a = some v) : a.spot = none := by
  unfold World.cell? at h
  split at h
  · split at h
    · cases h
    · rename_i hs; simpa using hs
  · cases h

theorem covers_slice {P : Program} {n : Nat} {t e : TypeId} {sz : Nat} {S : List V → Prop} (mk : List V → V) (ht : P.underlying t = some (.slice e)) (hc : P.cellsOf e = sz) (hsz : 0 < sz) (he : Covers P n e S)
    (hmk : ∀ xs, S xs → (mk xs).cells = xs) :
    Covers P (n + 1) t fun xs => ∃ ys : List V, xs = [.list ys] ∧ (∀ y ∈ ys, ∃ zs, S zs ∧ y = mk zs) ∧ ys.length ≤ maxLen := fun H enc W sp held cs d ps h => by
  rcases inv_slice ht h with rfl | ⟨a, len, cap, elems, rfl, hb1, hb2, hel⟩
  · exact ⟨[.list []], ⟨[], rfl, fun y hy => absurd hy (by simp), Nat.zero_le _⟩, rep_single (.empty none 0)⟩
  · rw [hc] at hel
    obtain ⟨h1, h2⟩ := mapM_get hel
    simp only [List.length_range] at h1 h2
    have key : ∀ i, i < len → ∃ zs, S zs ∧ zs.length = sz ∧ ∀ k (hk : k < zs.length), ∃ v, W.cell? ((a.add (i * sz)).add k) = some v ∧ RepV (memC W) v zs[k] := by
      intro i hi
      have h3 := h2 i hi (by omega)
      simp only [List.getElem_range, Option.bind_eq_some_iff] at h3
      obtain ⟨ccs, hccs, htr⟩ := h3
      obtain ⟨g1, g2⟩ := cells_get hccs
      obtain ⟨zs, s1, s2, s3⟩ := he H enc W sp held ccs _ _ htr
      refine ⟨zs, s1, by omega, fun k hk => ⟨ccs[k]'(by omega), g2 k (by omega), ?_⟩⟩
      have := s3 k hk
      have hk' : k < ccs.length := by omega
      simpa [List.getD, List.getElem?_eq_getElem hk'] using this
    by_cases hl : len = 0
    · subst hl
      exact ⟨[.list []], ⟨[], rfl, fun y hy => absurd hy (by simp), Nat.zero_le _⟩, rep_single (.empty _ _)⟩
    · have ha : a = ⟨a.block, a.off, none⟩ := by
        obtain ⟨zs, _, hz, hk⟩ := key 0 (by omega)
        obtain ⟨v, hv, _⟩ := hk 0 (by omega)
        have : (a.add (0 * sz)).add 0 = a := by simp [Addr.add]
        rw [this] at hv
        have := spot_of_cell hv
        cases a; simp at this; subst this; rfl
      have key' : ∀ i : Nat, ∃ zs : List V, i < len → (S zs ∧ zs.length = sz ∧ ∀ k (hk : k < zs.length), ∃ v, W.cell? ((a.add (i * sz)).add k) = some v ∧ RepV (memC W) v zs[k]) := fun i => by
        by_cases hi : i < len
        · obtain ⟨zs, h⟩ := key i hi; exact ⟨zs, fun _ => h⟩
        · exact ⟨[], fun h => absurd h hi⟩
      obtain ⟨zs, hzs⟩ := Classical.skolem.mp key'
      have hadd : ∀ i k, (a.add (i * sz)).add k = ⟨a.block, a.off + i * sz + k, none⟩ := fun i k => by
        rw [ha, addr_add, addr_add]
      refine ⟨[.list ((List.range len).map fun i => mk (zs i))], ⟨_, rfl, fun y hy => ?_, by simp; omega⟩, rep_single ?_⟩
      · obtain ⟨i, hi, rfl⟩ := List.mem_map.mp hy
        exact ⟨zs i, (hzs i (by simpa using hi)).1, rfl⟩
      · have hlen : ((List.range len).map fun i => mk (zs i)).length = len := by simp
        have hcell : ∀ i (hi : i < len), (((List.range len).map fun i => mk (zs i))[i]'(by rw [hlen]; exact hi)).cells = zs i := fun i hi => by
          simp only [List.getElem_map, List.getElem_range]
          exact hmk _ (hzs i hi).1
        have := RepV.list (C := memC W) a.block a.off cap sz ((List.range len).map fun i => mk (zs i)) (fun i k => (W.cell? ⟨a.block, a.off + i * sz + k, none⟩).getD undef) (by rw [hlen]; exact hb1)
          (fun i hi => by rw [hcell i (by omega)]; exact (hzs i (by omega)).2.1)
          (fun i k hi hk => by
            obtain ⟨v, hv, _⟩ := (hzs i (by omega)).2.2 k (by rw [(hzs i (by omega)).2.1]; exact hk)
            rw [hadd] at hv
            show W.cell? _ = _
            rw [hv]; rfl)
          (fun i k hi hk => by
            have hi' : i < len := by omega
            have hk' : k < (zs i).length := by rw [hcell i hi'] at hk; exact hk
            obtain ⟨v, hv, hr⟩ := (hzs i hi').2.2 k hk'
            rw [hadd] at hv
            simp only [hv, Option.getD_some]
            have e : (((List.range len).map fun i => mk (zs i))[i]).cells[k] = (zs i)[k] := by simp only [hcell i hi']
            rw [e]; exact hr)
        rw [hlen, ← ha] at this
        exact this

/-- Data one behind the other. -/
def Cat : List (List V → Prop) → List V → Prop
  | [], xs => xs = []
  | S :: Ss, xs => ∃ ys zs, xs = ys ++ zs ∧ S ys ∧ Cat Ss zs

/-- Fields that lie one behind the other, with what covers each. -/
def FieldsOk (P : Program) (n : Nat) : List Field → Nat → Nat → List (List V → Prop) → Prop
  | [], off, tot, [] => off = tot
  | f :: fs, off, tot, S :: Ss => f.offset = off ∧ Covers P n f.type S ∧ FieldsOk P n fs (off + P.cellsOf f.type) tot Ss
  | _, _, _, _ => False

theorem fieldsOk_le {P : Program} {n : Nat} : ∀ {fs : List Field} {off tot : Nat} {Ss : List (List V → Prop)}, FieldsOk P n fs off tot Ss → off ≤ tot
  | [], off, tot, [], h => Nat.le_of_eq h
  | f :: fs, off, tot, S :: Ss, h => Nat.le_trans (Nat.le_add_right _ _) (fieldsOk_le h.2.2)

theorem covers_fields {P : Program} {n : Nat} {H : Type} {enc : TypeId × Value → H} {W : World} {sp : Nat → Bool} {held : Bool} {cs : List Value} : ∀ {fs : List Field} {off tot : Nat} {Ss : List (List V → Prop)} {r : List (DataW H × List MemPlace)}, cs.length = tot → FieldsOk P n fs off tot Ss →
    (fs.mapM fun f => DataW.trod enc P W 0 sp held n f.type ((cs.drop f.offset).take (P.cellsOf f.type))) = some r →
    ∃ xs, Cat Ss xs ∧ xs.length = tot - off ∧ ∀ k (hk : k < xs.length), RepV (memC W) (cs.getD (off + k) undef) xs[k]
  | [], off, tot, [], r, hl, h, hm => by
    have : off = tot := h
    exact ⟨[], rfl, by simp; omega, fun k hk => absurd hk (by simp)⟩
  | f :: fs, off, tot, S :: Ss, r, hl, h, hm => by
    obtain ⟨h1, h2, h3⟩ := h
    simp only [List.mapM_cons, Option.bind_eq_bind, Option.bind_eq_some_iff] at hm
    obtain ⟨y, hy, ys, hys, _⟩ := hm
    obtain ⟨xs, a1, a2, a3⟩ := h2 H enc W sp held _ _ _ hy
    obtain ⟨zs, b1, b2, b3⟩ := covers_fields hl h3 hys
    have hle := fieldsOk_le h3
    rw [h1, List.length_take, List.length_drop] at a2
    have hxl : xs.length = P.cellsOf f.type := by omega
    refine ⟨xs ++ zs, ⟨xs, zs, rfl, a1, b1⟩, by simp; omega, fun k hk => ?_⟩
    by_cases hlt : k < xs.length
    · rw [List.getElem_append_left hlt]
      have := a3 k hlt
      rw [h1] at this
      have e : ((cs.drop off).take (P.cellsOf f.type)).getD k undef = cs.getD (off + k) undef := by
        simp only [List.getD]
        rw [List.getElem?_take_of_lt (by omega), List.getElem?_drop]
      rw [e] at this; exact this
    · rw [List.getElem_append_right (by omega)]
      have := b3 (k - xs.length) (by simp at hk; omega)
      rw [show off + P.cellsOf f.type + (k - xs.length) = off + k by omega] at this
      exact this

theorem covers_struct {P : Program} {n : Nat} {t : TypeId} {fs : Array Field} {Ss : List (List V → Prop)} (ht : P.underlying t = some (.struct fs)) (hf : FieldsOk P n fs.toList 0 (P.cellsOf t) Ss) : Covers P (n + 1) t (Cat Ss) := fun H enc W sp held cs d ps h => by
  have key : cs.length = P.cellsOf t ∧ ∃ r, (fs.toList.mapM fun f => DataW.trod enc P W 0 sp held n f.type ((cs.drop f.offset).take (P.cellsOf f.type))) = some r := by
    simp only [DataW.trod, ht] at h
    split at h
    · rename_i hl
      simp only [Option.map_eq_some_iff] at h
      obtain ⟨r, hr, _⟩ := h
      exact ⟨hl, r, hr⟩
    · cases h
  obtain ⟨hl, r, hr⟩ := key
  obtain ⟨xs, h1, h2, h3⟩ := covers_fields hl hf hr
  refine ⟨xs, h1, by omega, fun k hk => ?_⟩
  have := h3 k hk
  rwa [Nat.zero_add] at this

/-- An argument. -/
theorem covers_arg {P : Program} {t : TypeId} {S : List V → Prop} (hS : ∀ n, Covers P n t S) {H : Type} {enc : TypeId × Value → H} {W : World} {sp : Nat → Bool} {held : Bool} {v : Value} {d : DataW H} {ps : List MemPlace}
    (h : DataW.Trod enc P W 0 sp held t v d ps) : ∃ xs, S xs ∧ v.cells.size = xs.length ∧ ∀ k (hk : k < xs.length), RepV (memC W) (v.cells.getD k undef) xs[k] := by
  obtain ⟨n, hn⟩ := h
  obtain ⟨xs, h1, h2, h3⟩ := hS n H enc W sp held _ _ _ hn
  refine ⟨xs, h1, by simpa using h2, fun k hk => ?_⟩
  have := h3 k hk
  simpa [List.getD, Array.getElem?_toList] using this

/-- A value that is no struct: its one datum. -/
theorem covers_arg1 {P : Program} {t : TypeId} {S : List V → Prop} (hS : ∀ n, Covers P n t S) {H : Type} {enc : TypeId × Value → H} {W : World} {sp : Nat → Bool} {held : Bool} {v : Value} {d : DataW H} {ps : List MemPlace}
    (h : DataW.Trod enc P W 0 sp held t v d ps) (hv : ∀ cs, v ≠ .agg cs) : ∃ xs, S xs ∧ ∀ x, xs = [x] → RepV (memC W) v x := by
  obtain ⟨xs, h1, h2, h3⟩ := covers_arg hS h
  have hc : v.cells = #[v] := by cases v <;> first | rfl | exact absurd rfl (hv _)
  rw [hc] at h2 h3
  refine ⟨xs, h1, fun x hx => ?_⟩
  subst hx
  exact h3 0 (by simp)

/-- A struct by value. -/
theorem covers_argn {P : Program} {t : TypeId} {S : List V → Prop} (hS : ∀ n, Covers P n t S) {H : Type} {enc : TypeId × Value → H} {W : World} {sp : Nat → Bool} {held : Bool} {v : Value} {d : DataW H} {ps : List MemPlace}
    (h : DataW.Trod enc P W 0 sp held t v d ps) (hv : ∃ cs, v = .agg cs) : ∃ xs, S xs ∧ RepV (memC W) v (.agg xs) := by
  obtain ⟨xs, h1, h2, h3⟩ := covers_arg hS h
  obtain ⟨cs, rfl⟩ := hv
  exact ⟨xs, h1, .agg cs xs h2 h3⟩

end Go.Proofs.Ytioechdfghglhaa.SL
