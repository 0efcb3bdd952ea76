/- The program logic, seventh part: append. -/
import Derived.Test.YtioechdfghglhaaSlF
import Derived.Lib.Strings

namespace Go.Proofs.Ytioechdfghglhaa.SL
set_option linter.unusedVariables false
set_option linter.unusedSimpArgs false
open Go Go.RowKit

def isInt : TypeDesc → Bool
  | .int _ => true
  | _ => false

/-- What is appended: so many elements, these cells. -/
structure Src (P : Program) (size : Nat) (x : Value) (n : Nat) (cs : Array Value) (w : World) : Prop where
  len : ∀ w', w'.heap = w.heap → (Builtin.lenOf x).run P w' = .ok n w'
  cells : ∀ w', w'.heap = w.heap → (Builtin.firstCells size n x).run P w' = .ok cs w'
  size : cs.size = n * size

theorem run_append_in {P : Program} {w w' : World} {t u ty e : TypeId} {d : TypeDesc} {sz n m c : Nat} {a : Option Addr} {x : Value} {cs : Array Value} (ht : P.underlying t = some (.slice e)) (hu : P.underlying u = some d) (hd : isInt d = false)
    (hs : szOf P e = some sz) (hx : Src P sz x m cs w) (hle : n + m ≤ c) (hst : ∀ b, a = some b → (storeCells (b.add (n * sz)) cs.toList).run P w = .ok () w') (hno : a = none → w' = w) :
    (Builtin.append_ #[t, u] ty #[.slice a n c, x]).run P w = .ok (.slice a (n + m) c) w' := by
  unfold Builtin.append_
  cases d <;> first | (simp only [isInt, reduceCtorEq] at hd; done) | skip
  all_goals
    simp only [List.getElem?_toArray, List.getElem?_cons_zero, List.getElem?_cons_succ, Sem.run_bind, run_under ht, Result.andThen_ok, run_sizeOf hs, run_under hu, Sem.run_pure, Bool.false_eq_true, if_false, hx.len w rfl]
    have hc : ¬ (c < n + m) := by omega
    simp only [hle, if_true, Bool.not_false, Sem.run_bind, hx.cells w rfl, Result.andThen_ok]
    cases a with
    | none => rw [hno rfl]; rfl
    | some b => simp only [Sem.run_bind, hst b rfl, Result.andThen_ok, Sem.run_pure]

theorem run_append_out {P : Program} {w : World} {t u ty e : TypeId} {d : TypeDesc} {n m c : Nat} {i : TypeInfo} {z : Value} {s x : Value} {cs old : Array Value} (ht : P.underlying t = some (.slice e)) (hu : P.underlying u = some d) (hd : isInt d = false)
    (hi : P.info? e = some i) (hz : i.zero = some z) (hx : Src P i.size x m cs w) {a : Option Addr} (hs : s = .slice a n c) (hold : ∀ w', w'.heap = w.heap → (Builtin.firstCells i.size n s).run P w' = .ok old w') (hgt : c < n + m)
    (hfit : (n + m) * i.bytes ≤ 140737488355328) (hb : 0 < i.bytes) :
    (Builtin.append_ #[t, u] ty #[s, x]).run P w = .ok (.slice (some ⟨w.heap.size, 0, none⟩) (n + m) (grownCap w (n + m) c e))
      (w.drew.alloc (.cells (old ++ cs ++ Builtin.zeroCells z.cells (grownCap w (n + m) c e - (n + m))) e)) := by
  subst hs
  have hsz : szOf P e = some i.size := by simp [szOf, hi]
  have hzo : zeroOf P e = some z := by simp [zeroOf, hi, hz]
  have h48 := growslice_fits (old := c) hgt hfit
  have hnm : n + m ≤ 140737488355328 := Nat.le_trans (Nat.le_mul_of_pos_right _ hb) hfit
  have hc : ¬ (n + m ≤ c) := by omega
  have hti : (typeInfo e).run P w = .ok i w := by simp [typeInfo, hi]
  have h63 : ¬ (((n + m : Nat) : Int) > IntKind.i64.max ∧ i.bytes = 0) := by omega
  have h48' : ¬ (Builtin.nextslicecap (n + m) c * i.bytes > 2 ^ 48) := by
    have : (2 : Nat) ^ 48 = 281474976710656 := by decide
    rw [this]; omega
  have hch : (choose (.appendCap (n + m) c e)).run P w = .ok (grownCap w (n + m) c e) w.drew := rfl
  have hti' : (typeInfo e).run P w.drew = .ok i w.drew := by simp [typeInfo, hi]
  unfold Builtin.append_
  cases d <;> first | (simp only [isInt, reduceCtorEq] at hd; done) | skip
  all_goals
    simp only [List.getElem?_toArray, List.getElem?_cons_zero, List.getElem?_cons_succ, Sem.run_bind, run_under ht, Result.andThen_ok, run_sizeOf hsz, run_under hu, Sem.run_pure, Bool.false_eq_true, if_false, hx.len w rfl]
    simp only [hc, if_false, Sem.run_bind, hti, Result.andThen_ok, false_or, h63, h48', hch, hti', run_askRoom, hold w.drew rfl, Bool.not_false, if_true, hx.cells w.drew rfl, run_zeroOf hzo, newRow, run_newObj, Sem.run_pure]
    rfl

theorem grownCap_ge {w : World} {need old : Nat} {e : TypeId} : need ≤ grownCap w need old e := by
  unfold grownCap Question.cut
  exact Nat.le_add_right _ _

/-- A list's cells, out of immutable memory. -/
theorem cells_of_list {C : Imm} {a : Option Addr} {n c : Nat} {xs : List V} {sz : Nat} (r : RepV C (.slice a n c) (.list xs)) (hsz : ∀ x ∈ xs, x.cells.length = sz) : n = xs.length ∧
    (xs ≠ [] → ∃ b f, a = some ⟨b, f, none⟩) ∧
    ∃ vs : Nat → Value, (∀ b f k, a = some ⟨b, f, none⟩ → k < xs.length * sz → C b (f + k) = some (vs k)) ∧ ∀ k y, (xs.flatMap V.cells)[k]? = some y → RepV C (vs k) y := by
  cases r with
  | empty => exact ⟨rfl, fun h => absurd rfl h, fun _ => undef, (fun b f k _ h => by simp at h), (fun k y h => by simp at h)⟩
  | list b f c sz' xs vs hc h3 h4 h5 =>
    refine ⟨rfl, fun _ => ⟨b, f, rfl⟩, ?_⟩
    by_cases hx : xs = []
    · subst hx
      exact ⟨fun _ => undef, (fun b f k _ h => by simp at h), (fun k y h => by simp at h)⟩
    · have hz : sz' = sz := by
        have h0 : 0 < xs.length := List.length_pos_iff.mpr hx
        rw [← h3 0 h0, hsz _ (List.getElem_mem h0)]
      subst hz
      obtain ⟨hf1, hf2⟩ := flat_get hsz
      have dm : ∀ k, k < xs.length * sz' → k / sz' < xs.length ∧ k % sz' < sz' ∧ k / sz' * sz' + k % sz' = k := fun k hk => by
        have hp : 0 < sz' := by
          rcases Nat.eq_zero_or_pos sz' with h | h
          · subst h; simp at hk
          · exact h
        exact ⟨(Nat.div_lt_iff_lt_mul hp).mpr hk, Nat.mod_lt _ hp, by rw [Nat.mul_comm]; exact Nat.div_add_mod k sz'⟩
      refine ⟨fun k => vs (k / sz') (k % sz'), fun b' f' k h hk => ?_, fun k y hy => ?_⟩
      · cases h
        obtain ⟨d1, d2, d3⟩ := dm k hk
        have := h4 (k / sz') (k % sz') d1 d2
        rw [Nat.add_assoc, d3] at this; exact this
      · obtain ⟨hk, _⟩ := List.getElem?_eq_some_iff.mp hy
        obtain ⟨d1, d2, d3⟩ := dm k (by omega)
        have hlen := h3 _ d1
        have := hf2 (k / sz') (k % sz') d1 (by omega)
        rw [d3, hy] at this
        cases this
        exact h5 _ _ d1 (by omega)

theorem src_of_list {P : Program} {G : Gh} {σ : List Chunk} {w : World} (hi : Inv G σ w) {x : Value} {ys : List V} {sz : Nat} (r : RepV G.C x (.list ys)) (hsz : ∀ y ∈ ys, y.cells.length = sz) :
    ∃ cs, Src P sz x ys.length cs w ∧ ∀ k y, (ys.flatMap V.cells)[k]? = some y → RepV G.C (cs.getD k undef) y := by
  obtain ⟨a, c, rfl, hc⟩ := rep_list_len r
  obtain ⟨_, h1, vs, h2, h3⟩ := cells_of_list r hsz
  cases a with
  | none =>
    have hy : ys = [] := by
      by_cases h : ys = []
      · exact h
      · obtain ⟨b, f, hb⟩ := h1 h; cases hb
    subst hy
    refine ⟨#[], ⟨fun w' _ => rfl, fun w' _ => run_firstCells_none .., by simp⟩, fun k y h => by simp at h⟩
  | some a =>
    have ha : ys ≠ [] → ∃ b f, a = ⟨b, f, none⟩ := fun h => by obtain ⟨b, f, hb⟩ := h1 h; cases hb; exact ⟨b, f, rfl⟩
    refine ⟨((List.range (ys.length * sz)).map vs).toArray, ⟨fun w' _ => rfl, fun w' hw => ?_, by simp⟩, fun k y hy => ?_⟩
    · simp only [Builtin.firstCells]
      refine run_loadCells w' a _ vs (fun j hj => ?_)
      have hne : ys ≠ [] := by rintro rfl; simp at hj
      obtain ⟨b, f, rfl⟩ := ha hne
      rw [addr_add]
      have := hi.agree _ _ _ (h2 b f j rfl hj)
      rw [← this]; exact World.cell?_of_block (by rw [hw])
    · obtain ⟨hk, _⟩ := List.getElem?_eq_some_iff.mp hy
      have hk' : k < ys.length * sz := by rw [← (flat_get hsz).1]; exact hk
      rw [range_getD _ _ _ hk']
      exact h3 k y hy

def byteV (b : UInt8) : V := .int .u8 b.toNat

theorem src_of_str {P : Program} {w : World} {C : Imm} (t : ByteArray) : ∃ cs, Src P 1 (.string t) (t.data.toList.map byteV).length cs w ∧
    ∀ k y, ((t.data.toList.map byteV).flatMap V.cells)[k]? = some y → RepV C (cs.getD k undef) y := by
  have hsz : (t.data.toList.map byteV).length = t.size := by simp only [List.length_map, Array.length_toList]; rfl
  refine ⟨t.data.map fun b => .int .u8 b.toNat, ⟨fun w' _ => by rw [hsz]; rfl, fun w' _ => ?_, by simp⟩, fun k y hy => ?_⟩
  · have : t.extract 0 t.size = t := by
      refine ByteArray.ext (Array.toList_inj.mp ?_)
      rw [Lib.extract_data]
      have hts : t.size = t.data.toList.length := rfl
      rw [List.drop_zero, Nat.sub_zero, hts, List.take_length]
    rw [hsz]
    simp only [Builtin.firstCells, this, Sem.run_pure]
  · have hf : (t.data.toList.map byteV).flatMap V.cells = t.data.toList.map byteV := by
      generalize t.data.toList = l
      induction l with
      | nil => rfl
      | cons b l ih => simp only [List.map_cons, List.flatMap_cons, ih]; rfl
    rw [hf] at hy
    obtain ⟨hk, rfl⟩ := List.getElem?_eq_some_iff.mp hy
    have hk' : k < t.data.size := by simpa using hk
    simp only [List.getElem_map, Array.getD_eq_getD_getElem?, Array.getElem?_map, Array.getElem?_eq_getElem hk', Option.map_some, Option.getD_some, Array.getElem_toList]
    exact .int _ _

/-! ### What is known of 'own' -/

section
variable {P : Program} {ops : Array Oper} {Q : Post} {s : Slots} {δ : Defs} {σ : List Chunk} {o : Oper} {rest : List Oper}

/-- A list without room is owned as it stands. -/
theorem sl_own {t : Nat} {sz : Nat} {xs : List V} (hs : evalO s (.tmp t) = .fix xs) (c : ∀ v, SL P ops rest Q (sput s (some t) (.own v xs)) δ (.spare v sz :: σ)) : SL P ops rest Q s δ σ := fun G a w hi hr => by
  have hv := hr.eval (.tmp t)
  rw [hs] at hv
  generalize hval : a.eval (.tmp t) = v at hv
  cases hv with
  | fix ad xs h =>
    refine c (.slice ad xs.length xs.length) G a w (hi.add ⟨ad, xs.length, xs.length, rfl, .inl rfl⟩ (fun b e => ?_) (fun b o e => ?_) (fun b e => ?_)) ?_
    · cases ad <;> simp [Chunk.b?] at e
    · cases ad <;> simp [Chunk.owns] at e
    · cases ad <;> simp [Chunk.b?] at e
    · have hlt : t < s.n := by
        by_cases h : t < s.n
        · exact h
        · rw [evalO_ge h] at hs; cases hs
      refine ⟨hr.size, fun k hk => ?_, hr.defs, hr.defd⟩
      rw [get_put]
      have hk : k < s.n := hk
      split
      · rename_i e; subst e
        have hval : a.tmps.getD t undef = _ := hval
        rw [hval]; exact .own _ _ h
      · exact hr.slot k hk

/-- The immutable heap grows by n cells of a block, from f on. -/
def Gh.grow (G : Gh) (b f n : Nat) (cs : Nat → Value) : Gh := { G with C := fun b' o => if b' = b ∧ f ≤ o ∧ o < f + n then some (cs o) else G.C b' o }

theorem Gh.grow_le {G : Gh} {b f n : Nat} {cs : Nat → Value} (h : ∀ o, f ≤ o → o < f + n → G.C b o = none) : G.le (G.grow b f n cs) :=
  ⟨rfl, fun b' o v hv => by
    show (if b' = b ∧ f ≤ o ∧ o < f + n then some (cs o) else G.C b' o) = some v
    split
    · rename_i e; obtain ⟨rfl, h1, h2⟩ := e; rw [h o h1 h2] at hv; cases hv
    · exact hv⟩

theorem flat_append (xs ys : List V) : (xs ++ ys).flatMap V.cells = xs.flatMap V.cells ++ ys.flatMap V.cells := List.flatMap_append ..

/-- The heart of append: world, ghost and room behind it. -/
theorem append_core {G : Gh} {w : World} {t u ty e : TypeId} {d : TypeDesc} {i : TypeInfo} {z v x : Value} {xs ys : List V} {cs : Array Value}
    (hi : Inv G (.spare v i.size :: σ) w) (hv : RepV G.C v (.list xs)) (ht : P.underlying t = some (.slice e)) (hu : P.underlying u = some d) (hd : isInt d = false)
    (hin : P.info? e = some i) (hz : i.zero = some z) (hsz : 0 < i.size) (hb : 0 < i.bytes) (hxs : ∀ x ∈ xs, x.cells.length = i.size) (hys : ∀ y ∈ ys, y.cells.length = i.size)
    (hcell : ∀ v y, RepV G.C v y → y ∈ ys.flatMap V.cells → v.oneCell' = true)
    (hx : Src P i.size x ys.length cs w) (hcs : ∀ k y, (ys.flatMap V.cells)[k]? = some y → RepV G.C (cs.getD k undef) y) (hfit : (xs.length + ys.length) * i.bytes ≤ 140737488355328) (hzs : z.cells.size = i.size) :
    ∃ v' w' G', (Builtin.append_ #[t, u] ty #[v, x]).run P w = .ok v' w' ∧ G.le G' ∧ Inv G' (.spare v' i.size :: σ) w' ∧ RepV G'.C v' (.list (xs ++ ys)) := by
  obtain ⟨a, n, c, hva, hroom⟩ := hi.holds _ (List.mem_cons_self ..)
  subst hva
  obtain ⟨rfl, hpos, vs, hC, hrep⟩ := cells_of_list hv hxs
  have hs' : szOf P e = some i.size := by simp [szOf, hin]
  have hall : ∀ x ∈ xs ++ ys, x.cells.length = i.size := fun x hx => by
    rcases List.mem_append.mp hx with h | h
    · exact hxs x h
    · exact hys x h
  have hfx := (flat_get hxs).1
  have hfy := (flat_get hys).1
  by_cases hle : xs.length + ys.length ≤ c
  · rcases hroom with hcap | ⟨b, f, cells, bty, fz, rfl, hlt, hblk, hfz, hsize⟩
    · -- no room, nothing to append
      have hy0 : ys = [] := List.eq_nil_of_length_eq_zero (by omega)
      subst hy0
      have hcs0 : cs = #[] := by have := hx.size; simp at this; exact this
      subst hcs0
      refine ⟨.slice a xs.length c, w, G, ?_, G.le_refl, hi, by rw [List.append_nil]; exact hv⟩
      exact run_append_in ht hu hd hs' hx (by simpa using hle) (fun b _ => rfl) (fun _ => rfl)
    · have hone : ∀ u ∈ cs.toList, u.oneCell' = true := by
        intro u hu
        obtain ⟨k, hk, rfl⟩ := List.getElem_of_mem hu
        have hk1 : k < cs.size := by simpa using hk
        have hk2 : k < (ys.flatMap V.cells).length := by rw [hfy, ← hx.size]; exact hk1
        have := hcs k _ (List.getElem?_eq_getElem hk2)
        simp only [Array.getD_eq_getD_getElem?, Array.getElem?_eq_getElem hk1, Option.getD_some] at this
        simpa using hcell _ _ this (List.getElem_mem hk2)
      have hmul : (xs.length + ys.length) * i.size ≤ c * i.size := Nat.mul_le_mul_right _ hle
      rw [Nat.add_mul] at hmul
      have hcl : cs.toList.length = ys.length * i.size := by rw [Array.length_toList, hx.size]
      obtain ⟨w', cells', g1, g2, g3, g4, g5, g6, g7, g8, g9, g10⟩ := run_storeCells (P := P) cs.toList 0 w b (f + xs.length * i.size) cells bty fz hblk hfz (by omega) hone
      simp only [Nat.add_zero] at g4 g5
      have hown : ∀ o, f + xs.length * i.size ≤ o → G.C b o = none := fun o ho =>
        hi.apart (.spare (.slice (some ⟨b, f, none⟩) xs.length c) i.size) (List.mem_cons_self ..) b o ⟨by omega, rfl, ho⟩
      have hGle : G.le (G.grow b (f + xs.length * i.size) (ys.length * i.size) fun o => cells'.getD o undef) := Gh.grow_le fun o h1 _ => hown o h1
      refine ⟨.slice (some ⟨b, f, none⟩) (xs.length + ys.length) c, w', _, run_append_in ht hu hd hs' hx hle (fun b' hb' => ?_) (fun h => by cases h), hGle, ?_, ?_⟩
      · cases hb'; rw [addr_add]; exact g1
      · refine hi.change (b := b) (by simp only [Chunk.b?]; rw [if_neg (by omega)]) (fun y hy => ?_) hGle (fun y o v hv => ?_) g6 g7 g8 g9 g10 (fun o v hv => ?_) ?_ (fun y o hy => ?_)
        · simp only [Chunk.b?] at hy
          split at hy <;> simp at hy
          exact hy.symm
        · change (if y = b ∧ _ then some _ else G.C y o) = some v at hv
          split at hv
          · rename_i e; obtain ⟨rfl, h1, h2⟩ := e
            exact .inr ⟨by omega, rfl, h1⟩
          · exact .inl hv
        · change (if b = b ∧ _ then some _ else G.C b o) = some v at hv
          have hcell' : ∀ o, o < cells'.size → w'.cell? ⟨b, o, none⟩ = some (cells'.getD o undef) := fun o ho => by
            simp only [World.cell?, g2, Array.getElem?_eq_getElem ho, Array.getD_eq_getD_getElem?, Option.getD_some]; rfl
          split at hv
          · rename_i e; obtain ⟨_, h1, h2⟩ := e
            cases hv
            exact hcell' o (by omega)
          · have h3 := hi.agree b o v hv
            simp only [World.cell?, hblk] at h3
            obtain ⟨ho, hoe⟩ := Array.getElem?_eq_some_iff.mp h3
            have ho' : o < f + xs.length * i.size := by
              rcases Nat.lt_or_ge o (f + xs.length * i.size) with h | h
              · exact h
              · rw [hown o h] at hv; cases hv
            rw [hcell' o (by omega), g5 o (by omega)]
            simp only [Array.getD_eq_getD_getElem?, Array.getElem?_eq_getElem ho, Option.getD_some]
            rw [← hoe]
        · refine ⟨_, _, _, rfl, ?_⟩
          by_cases hfull : xs.length + ys.length = c
          · exact .inl hfull
          · exact .inr ⟨b, f, cells', bty, fz, rfl, by omega, g2, by rw [g3]; exact hfz, by rw [g3]; exact hsize⟩
        · obtain ⟨h1, hyb, h2⟩ := hy
          have hyb : y = b := hyb
          subst hyb
          change f + (xs.length + ys.length) * i.size ≤ o at h2
          rw [Nat.add_mul] at h2
          show (if _ ∧ f + xs.length * i.size ≤ o ∧ o < f + xs.length * i.size + ys.length * i.size then some _ else G.C y o) = none
          rw [if_neg (by omega)]
          exact hown o (by omega)
      · have : xs.length + ys.length = (xs ++ ys).length := by simp
        rw [this]
        have hflat : ∀ k, k < xs.length * i.size → (G.grow b (f + xs.length * i.size) (ys.length * i.size) fun o => cells'.getD o undef).C b (f + k) = some (cells'.getD (f + k) undef) := fun k hk => by
          have h1 := hC b f k rfl hk
          have h2 := hi.agree _ _ _ h1
          simp only [World.cell?, hblk] at h2
          obtain ⟨ho, hoe⟩ := Array.getElem?_eq_some_iff.mp h2
          rw [hGle.2 _ _ _ h1, g5 (f + k) (by omega)]
          simp only [Array.getD_eq_getD_getElem?, Array.getElem?_eq_getElem ho, Option.getD_some, hoe]
        have hval : ∀ k, k < xs.length * i.size → vs k = cells'.getD (f + k) undef := fun k hk => by
          have h1 := hflat k hk
          rw [hGle.2 _ _ _ (hC b f k rfl hk)] at h1
          exact Option.some.inj h1
        refine list_of_flat (cs := cells') hall (by simpa using hle) (fun k hk => ?_) (fun k y hy => ?_)
        · simp only [List.length_append, Nat.add_mul] at hk
          by_cases h1 : k < xs.length * i.size
          · exact hflat k h1
          · show (if b = b ∧ f + xs.length * i.size ≤ f + k ∧ f + k < f + xs.length * i.size + ys.length * i.size then some (cells'.getD (f + k) undef) else _) = _
            rw [if_pos ⟨rfl, by omega, by omega⟩]
        · rw [flat_append] at hy
          by_cases h1 : k < xs.length * i.size
          · rw [List.getElem?_append_left (by omega)] at hy
            rw [← hval k h1]
            exact (hrep k y hy).mono hGle.2
          · rw [List.getElem?_append_right (by omega)] at hy
            have hk2 : k - (xs.flatMap V.cells).length < (ys.flatMap V.cells).length := (List.getElem?_eq_some_iff.mp hy).1
            have := g4 (k - xs.length * i.size) (by omega)
            rw [show f + xs.length * i.size + (k - xs.length * i.size) = f + k by omega] at this
            rw [this]
            rw [hfx] at hy
            have := (hcs _ _ hy).mono hGle.2
            simpa [List.getD] using this
  · -- a new block
    have hgt : c < xs.length + ys.length := by omega
    obtain ⟨old, hold⟩ := src_of_list (P := P) hi hv hxs
    have hrun := run_append_out (ty := ty) ht hu hd hin hz hx (s := .slice a xs.length c) rfl (old := old) (fun w' hw => hold.1.cells w' hw) hgt hfit hb
    have hge : xs.length + ys.length ≤ grownCap w (xs.length + ys.length) c e := grownCap_ge
    generalize hcap : grownCap w (xs.length + ys.length) c e = cap at hrun hge
    generalize hnew : old ++ cs ++ Builtin.zeroCells z.cells (cap - (xs.length + ys.length)) = cells at hrun
    have hos : old.size = xs.length * i.size := hold.1.size
    have hcsz : cs.size = ys.length * i.size := hx.size
    have hi1 : Inv G σ w.drew := hi.drop.drew
    have hi2 : Inv G σ (w.drew.alloc (.cells cells e)) := hi1.of_below (Below.alloc (Below.refl _ _) (Nat.le_refl _) _)
    have hnone : ∀ o, G.C w.heap.size o = none := fun o => hi.nothing_new o
    have hnew' : (w.drew.alloc (.cells cells e)).heap[w.heap.size]? = some (.cells cells e) := heap_new w.drew _
    have hGle : G.le (G.grow w.heap.size 0 ((xs.length + ys.length) * i.size) fun o => cells.getD o undef) := Gh.grow_le fun o _ _ => hnone o
    have hget : ∀ k, k < (xs.length + ys.length) * i.size → k < cells.size ∧ cells.getD k undef = (old ++ cs).getD k undef := fun k hk => by
      rw [Nat.add_mul] at hk
      rw [← hnew]
      refine ⟨by simp only [Array.size_append]; omega, ?_⟩
      simp only [Array.getD_eq_getD_getElem?]
      rw [Array.getElem?_append_left (by simp only [Array.size_append]; omega)]
    have hi3 : Inv (G.grow w.heap.size 0 ((xs.length + ys.length) * i.size) fun o => cells.getD o undef) σ (w.drew.alloc (.cells cells e)) := by
      refine ⟨hi2.below, fun b o v hv => ?_, fun x hx => Chunk.holds_of_block hGle.2 (fun _ _ => rfl) (hi2.holds x hx), hi2.nodup, fun x hx y o hy => ?_, hi2.fresh⟩
      · change (if b = w.heap.size ∧ _ then some _ else G.C b o) = some v at hv
        split at hv
        · rename_i e; obtain ⟨rfl, h1, h2⟩ := e
          cases hv
          obtain ⟨h3, _⟩ := hget o (by omega)
          simp only [World.cell?, hnew', Array.getElem?_eq_getElem h3, Array.getD_eq_getD_getElem?, Option.getD_some]; rfl
        · exact hi2.agree b o v hv
      · have hne : y ≠ w.heap.size := fun e => by
          have := Chunk.holds_lt (hi1.holds x hx) (Chunk.owns_b hy)
          simp at this; omega
        show (if y = w.heap.size ∧ _ then some _ else G.C y o) = none
        rw [if_neg (fun h => hne h.1)]
        exact hi2.apart x hx y o hy
    refine ⟨_, _, _, hrun, hGle, hi3.add ⟨_, _, _, rfl, ?_⟩ (fun b hb x hx hxb => ?_) (fun b o hb => ?_) (fun b hb => ?_), ?_⟩
    · by_cases hfull : xs.length + ys.length = cap
      · exact .inl hfull
      · refine .inr ⟨w.heap.size, 0, cells, e, (0, 0), rfl, by omega, hnew', by intro o _ hh; omega, ?_⟩
        rw [← hnew]
        simp only [Array.size_append, hos, hcsz, Builtin.zeroCells, Array.size_map, Array.size_range, Nat.zero_add, hzs, ← Nat.add_mul]
        rw [show xs.length + ys.length + (cap - (xs.length + ys.length)) = cap by omega]
        exact Nat.le_refl _
    · have : b = w.heap.size := by
        simp only [Chunk.b?] at hb
        split at hb <;> simp at hb
        exact hb.symm
      subst this
      have := Chunk.holds_lt (hi1.holds x hx) hxb
      simp at this
    · obtain ⟨h1, rfl, h2⟩ := hb
      show (if _ ∧ _ ∧ o < 0 + (xs.length + ys.length) * i.size then some _ else G.C w.heap.size o) = none
      simp only [Nat.zero_add] at h2
      rw [if_neg (by simp only [Nat.zero_add]; omega)]
      exact hnone o
    · have : b = w.heap.size := by
        simp only [Chunk.b?] at hb
        split at hb <;> simp at hb
        exact hb.symm
      subst this
      exact hi.below.size
    · have : xs.length + ys.length = (xs ++ ys).length := by simp
      have hn : (xs ++ ys).length ≤ cap := by rw [← this]; exact hge
      have hl := list_of_flat (b := w.heap.size) (f := 0) (cs := cells) hall hn (C := (G.grow w.heap.size 0 ((xs.length + ys.length) * i.size) fun o => cells.getD o undef).C) (fun k hk => ?_) (fun k y hy => ?_)
      · rw [← this] at hl; exact hl
      · rw [← this] at hk
        show (if w.heap.size = w.heap.size ∧ 0 ≤ 0 + k ∧ 0 + k < 0 + (xs.length + ys.length) * i.size then some (cells.getD (0 + k) undef) else _) = _
        rw [if_pos ⟨rfl, by omega, by omega⟩]
      · have hk2 := (List.getElem?_eq_some_iff.mp hy).1
        rw [flat_append, List.length_append, hfx, hfy, ← Nat.add_mul] at hk2
        rw [Nat.zero_add, (hget k hk2).2]
        rw [flat_append] at hy
        simp only [Array.getD_eq_getD_getElem?]
        by_cases h1 : k < xs.length * i.size
        · rw [List.getElem?_append_left (by omega)] at hy
          rw [Array.getElem?_append_left (by omega)]
          have := (hold.2 k y hy).mono hGle.2
          simpa only [Array.getD_eq_getD_getElem?] using this
        · rw [List.getElem?_append_right (by omega), hfx] at hy
          rw [Array.getElem?_append_right (by omega), hos]
          have := (hcs _ y hy).mono hGle.2
          simpa only [Array.getD_eq_getD_getElem?] using this

/-- What append asks of an element type. -/
structure ElemOk (P : Program) (e : TypeId) (sz bytes : Nat) : Prop where
  ex : ∃ i z, P.info? e = some i ∧ i.zero = some z ∧ i.size = sz ∧ i.bytes = bytes ∧ z.cells.size = sz
  size : 0 < sz
  bytes : 0 < bytes

/-- The same by one closed equation. -/
def elOf (P : Program) (e : TypeId) : Option (Nat × Nat) :=
  match P.info? e with
  | some i => match i.zero with
    | some z => if z.cells.size = i.size ∧ 0 < i.size ∧ 0 < i.bytes then some (i.size, i.bytes) else none
    | none => none
  | none => none

theorem elOf_ok {P : Program} {e : TypeId} {sz bytes : Nat} (h : elOf P e = some (sz, bytes)) : ElemOk P e sz bytes := by
  unfold elOf at h
  split at h
  · rename_i i hi
    split at h
    · rename_i z hz
      split at h
      · rename_i hc
        cases h
        exact ⟨⟨i, z, hi, hz, rfl, rfl, hc.1⟩, hc.2.1, hc.2.2⟩
      · cases h
    · cases h
  · cases h

/-- No struct within a struct's cells. -/
def V.flat : V → Bool
  | .agg xs => xs.all fun x => match x with | .agg _ => false | _ => true
  | _ => true

theorem flat_cell {C : Imm} {v : Value} {y : V} {ys : List V} (h : ∀ y ∈ ys, y.flat = true) (r : RepV C v y) (hy : y ∈ ys.flatMap V.cells) : v.oneCell' = true := by
  obtain ⟨z, hz, hyz⟩ := List.mem_flatMap.mp hy
  have hf := h z hz
  cases r with
  | agg vs xs h1 h2 =>
    cases z <;> simp only [V.cells, List.mem_singleton, reduceCtorEq] at hyz
    rename_i zs
    simp only [V.flat, List.all_eq_true] at hf
    exact absurd (hf _ hyz) (by simp)
  | _ => rfl

/-- append: a list to an owned list. -/
theorem sl_append {t u e : TypeId} {x y : Operand} {v : Value} {xs ys : List V} {sz bytes : Nat} (hg : o.guard = none) (ho : o.op = .call { callee := .builtin .append, args := #[x, y], argTypes := #[t, u] })
    (hx : evalO s x = .own v xs) (hy : (evalO s y).asList = some ys) (ht : P.underlying t = some (.slice e)) (hu : ∃ d, P.underlying u = some d ∧ isInt d = false)
    (he : elOf P e = some (sz, bytes)) (hxs : ∀ x ∈ xs, x.cells.length = sz) (hys : ∀ y ∈ ys, y.cells.length = sz ∧ y.flat = true)
    (hfit : (xs.length + ys.length) * bytes ≤ 140737488355328)
    (c : ∀ v', SL P ops rest Q (sput s o.dst (.own v' (xs ++ ys))) δ (.spare v' sz :: σ)) : SL P ops (o :: rest) Q s δ (.spare v sz :: σ) :=
  sl_op hg fun G a w hi hr => by
    obtain ⟨⟨i, z, h1, h2, rfl, rfl, h3⟩, h4, h5⟩ := elOf_ok he
    obtain ⟨d, hd1, hd2⟩ := hu
    have r1 := hr.eval x; rw [hx] at r1
    generalize hv : a.eval x = vx at r1
    cases r1 with
    | own _ _ r1 =>
      obtain ⟨cs, hsrc, hcs⟩ := src_of_list (P := P) hi (asList_rep (hr.eval y) hy) (fun y hy => (hys y hy).1)
      obtain ⟨v', w', G', g1, g2, g3, g4⟩ := append_core (ty := o.type) hi r1 ht hd1 hd2 h1 h2 h4 h5 hxs (fun y hy => (hys y hy).1)
        (fun v y r hy' => flat_cell (fun z hz => (hys z hz).2) r hy') hsrc hcs hfit h3
      refine ⟨v', w', G', .own v' (xs ++ ys), .spare v' i.size :: σ, run_call_builtin ho ?_, g2, g3, .own _ _ g4, c v'⟩
      simp only [builtin, List.map_toArray, List.map_cons, List.map_nil, Sem.run_bind, hv, g1, Result.andThen_ok, Sem.run_pure]

theorem byteV_cells (l : List UInt8) : ∀ y ∈ l.map byteV, y.cells.length = 1 ∧ y.flat = true := by
  intro y hy
  obtain ⟨b, _, rfl⟩ := List.mem_map.mp hy
  exact ⟨rfl, rfl⟩

/-- append: a text's bytes to an owned list of bytes. -/
theorem sl_append_str {t u e : TypeId} {x y : Operand} {v : Value} {xs : List V} {l : List UInt8} {bytes : Nat} (hg : o.guard = none) (ho : o.op = .call { callee := .builtin .append, args := #[x, y], argTypes := #[t, u] })
    (hx : evalO s x = .own v xs) (hy : evalO s y = .val (.str l)) (ht : P.underlying t = some (.slice e)) (hu : P.underlying u = some .string)
    (he : elOf P e = some (1, bytes)) (hxs : ∀ x ∈ xs, x.cells.length = 1) (hfit : (xs.length + l.length) * bytes ≤ 140737488355328)
    (c : ∀ v', SL P ops rest Q (sput s o.dst (.own v' (xs ++ l.map byteV))) δ (.spare v' 1 :: σ)) : SL P ops (o :: rest) Q s δ (.spare v 1 :: σ) :=
  sl_op hg fun G a w hi hr => by
    obtain ⟨⟨i, z, h1, h2, h6, rfl, h3⟩, h4, h5⟩ := elOf_ok he
    have r1 := hr.eval x; rw [hx] at r1
    have r2 := hr.eval y; rw [hy] at r2; obtain ⟨t1, e2, rfl⟩ := rep_str r2
    generalize hv : a.eval x = vx at r1
    cases r1 with
    | own _ _ r1 =>
      obtain ⟨cs, hsrc, hcs⟩ := src_of_str (P := P) (w := w) (C := G.C) t1
      rw [← h6] at hi hsrc hxs h3
      obtain ⟨v', w', G', g1, g2, g3, g4⟩ := append_core (ty := o.type) hi r1 ht hu rfl h1 h2 (by omega) h5 hxs (fun y hy => by rw [h6]; exact (byteV_cells _ y hy).1)
        (fun v y r hy' => flat_cell (fun z hz => (byteV_cells _ z hz).2) r hy') hsrc hcs (by simpa only [List.length_map] using hfit) h3
      rw [h6] at g3
      refine ⟨v', w', G', .own v' (xs ++ t1.data.toList.map byteV), .spare v' 1 :: σ, run_call_builtin ho ?_, g2, g3, .own _ _ g4, c v'⟩
      simp only [builtin, List.map_toArray, List.map_cons, List.map_nil, Sem.run_bind, hv, e2, g1, Result.andThen_ok, Sem.run_pure]

end
end Go.Proofs.Ytioechdfghglhaa.SL
