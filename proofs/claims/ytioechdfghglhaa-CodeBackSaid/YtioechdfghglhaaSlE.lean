/- The program logic, fifth part: new blocks, stores, structs. -/
import Derived.Test.YtioechdfghglhaaSlD
namespace Go.Proofs.Ytioechdfghglhaa.SL
set_option linter.unusedVariables false
set_option linter.unusedSimpArgs false
open Go Go.RowKit

/-! ### A value's cells -/

def D.known : D → Bool
  | .junk => false
  | _ => true

theorem rep_cells {C : Imm} {v : Value} {d : D} (r : RepD C v d) (hk : d.known = true) : v.cells.size = d.cells.length ∧ ∀ k (h : k < d.cells.length), RepD C (v.cells.getD k undef) d.cells[k] := by
  have one : ∀ (v : Value) (d : D), RepD C v d → v.cells = #[v] → d.cells = [d] → v.cells.size = d.cells.length ∧ ∀ k (h : k < d.cells.length), RepD C (v.cells.getD k undef) d.cells[k] := by
    intro v d r h1 h2
    refine ⟨by rw [h1, h2]; rfl, fun k h => ?_⟩
    have h0 : k = 0 := by rw [h2] at h; simpa using h
    subst h0
    simp only [h1, h2, List.getElem_cons_zero]
    exact r
  cases r with
  | val _ x h =>
    cases h with
    | agg vs xs hs hv =>
      refine ⟨by simpa [Value.cells, D.cells] using hs, fun k hk => ?_⟩
      simp only [D.cells, List.length_map] at hk
      simp only [D.cells, List.getElem_map]
      exact .val _ _ (hv k hk)
    | bool b => exact one _ _ (.val _ _ (.bool b)) rfl rfl
    | int a b => exact one _ _ (.val _ _ (.int a b)) rfl rfl
    | str t => exact one _ _ (.val _ _ (.str t)) rfl rfl
    | empty a c => exact one _ _ (.val _ _ (.empty a c)) rfl rfl
    | list b o c sz xs vs h1 h2 h3 h4 => exact one _ _ (.val _ _ (.list b o c sz xs vs h1 h2 h3 h4)) rfl rfl
    | ref b o x vs h1 h2 => exact one _ _ (.val _ _ (.ref b o x vs h1 h2)) rfl rfl
    | nil => exact one _ _ (.val _ _ .nil) rfl rfl
    | iface t v x h => exact one _ _ (.val _ _ (.iface t v x h)) rfl rfl
    | nilIface => exact one _ _ (.val _ _ .nilIface) rfl rfl
    | nilFunc => exact one _ _ (.val _ _ .nilFunc) rfl rfl
  | agg vs ds h hv => exact ⟨h, hv⟩
  | fix a xs h => exact one _ _ (.fix a xs h) rfl rfl
  | ptr b o => exact one _ _ (.ptr b o) rfl rfl
  | rp b o xs vs h1 h2 => exact one _ _ (.rp b o xs vs h1 h2) rfl rfl
  | sl b o n c => exact one _ _ (.sl b o n c) rfl rfl
  | own v xs h =>
    refine one _ _ (.own v xs h) ?_ rfl
    cases h <;> rfl
  | tup vs ds h hv => exact one _ _ (.tup vs ds h hv) rfl rfl
  | func f vs ds h hv => exact one _ _ (.func f vs ds h hv) rfl rfl
  | iface t v d h => exact one _ _ (.iface t v d h) rfl rfl
  | map r => exact one _ _ (.map r) rfl rfl
  | junk v => simp [D.known] at hk

/-- A zero value's cells, as the table has it. -/
def zeroDs (P : Program) (t : TypeId) : Option (List D) := (zeroOf P t).map fun v => v.cells.toList.map ofConst

theorem zero_cells {P : Program} {t : TypeId} {ds : List D} (h : zeroDs P t = some ds) : ∃ v, zeroOf P t = some v ∧ ∀ C, v.cells.size = ds.length ∧ ∀ k (hk : k < ds.length), RepD C (v.cells.getD k undef) ds[k] := by
  unfold zeroDs at h
  obtain ⟨v, hv, rfl⟩ := Option.map_eq_some_iff.mp h
  refine ⟨v, hv, fun C => ⟨by simp, fun k hk => ?_⟩⟩
  have hk' : k < v.cells.size := by simpa using hk
  simp only [List.getElem_map, Array.getElem_toList, Array.getD_eq_getD_getElem?, Array.getElem?_eq_getElem hk', Option.getD_some]
  exact ofConst_rep C _

section rules
variable {P : Program} {ops : Array Oper} {Q : Post} {s : Slots} {δ : Defs} {σ : List Chunk} {o : Oper} {rest : List Oper}

theorem sl_alloc {t : TypeId} {ds : List D} (hg : o.guard = none) (ho : o.op = .alloc t) (hz : zeroDs P t = some ds)
    (c : ∀ b, SL P ops rest Q (sput s o.dst (.ptr b 0)) δ (.blk b ds :: σ)) : SL P ops (o :: rest) Q s δ σ :=
  sl_op hg fun G a w hi hr => by
    obtain ⟨v, hv, hr'⟩ := zero_cells hz
    have h := hr' G.C
    refine ⟨.pointer (some ⟨w.heap.size, 0, none⟩), w.alloc (.cells v.cells t), G, .ptr w.heap.size 0, .blk w.heap.size ds :: σ, ?_, G.le_refl, hi.alloc h.1 h.2, .ptr _ _, c _⟩
    simp only [execOp, ho, Instr.alloc, Sem.run_bind, run_zeroOf hv, Result.andThen_ok, newVar, newRow, run_newObj, Sem.run_pure]
    rfl

theorem sl_box {t : TypeId} {x : Operand} (hg : o.guard = none) (ho : o.op = .box t x) (hk : (evalO s x).known = true)
    (c : ∀ b, SL P ops rest Q (sput s o.dst (.ptr b 0)) δ (.blk b (evalO s x).cells :: σ)) : SL P ops (o :: rest) Q s δ σ :=
  sl_op hg fun G a w hi hr => by
    have h := rep_cells (hr.eval x) hk
    refine ⟨.pointer (some ⟨w.heap.size, 0, none⟩), w.alloc (.cells (a.eval x).cells t), G, .ptr w.heap.size 0, .blk w.heap.size (evalO s x).cells :: σ, ?_, G.le_refl, hi.alloc h.1 h.2, .ptr _ _, c _⟩
    simp only [execOp, ho, Instr.box, Sem.run_bind, Result.andThen_ok, newVar, newRow, run_newObj, Sem.run_pure]
    rfl

/-! ### Freezing -/

def Gh.freeze (G : Gh) (b : Nat) (cs : Array Value) : Gh := { G with C := fun b' o => if b' = b then cs[o]? else G.C b' o }

theorem Gh.freeze_le {G : Gh} {b : Nat} {cs : Array Value} (h : ∀ o, G.C b o = none) : G.le (G.freeze b cs) :=
  ⟨rfl, fun b' o v hv => by
    show (if b' = b then cs[o]? else G.C b' o) = some v
    split
    · rename_i e; subst e; rw [h o] at hv; cases hv
    · exact hv⟩

theorem Inv.freeze {G : Gh} {b : Nat} {ds : List D} {w : World} {cs : Array Value} {ty : TypeId} {fz : Nat × Nat} (hi : Inv G (.blk b ds :: σ) w) (hb : w.heap[b]? = some (.cells cs ty fz)) :
    G.le (G.freeze b cs) ∧ Inv (G.freeze b cs) σ w := by
  have hle : G.le (G.freeze b cs) := Gh.freeze_le fun o => hi.apart (.blk b ds) (List.mem_cons_self ..) b o rfl
  have hne := hi.ne_head (c := .blk b ds) rfl
  refine ⟨hle, hi.below, fun b' o v hv => ?_, fun x hx => ?_, hi.drop.nodup, fun x hx y o hy => ?_, fun x hx => hi.fresh x (List.mem_cons_of_mem _ hx)⟩
  · change (if b' = b then cs[o]? else G.C b' o) = some v at hv
    split at hv
    · rename_i e; subst e
      simp only [World.cell?, hb]; exact hv
    · exact hi.agree b' o v hv
  · exact Chunk.holds_of_block hle.2 (fun _ _ => rfl) (hi.holds x (List.mem_cons_of_mem _ hx))
  · have hne' : y ≠ b := fun e => by subst e; exact hne x hx (Chunk.owns_b hy)
    show (if y = b then cs[o]? else G.C y o) = none
    rw [if_neg hne']
    exact hi.apart x (List.mem_cons_of_mem _ hx) y o hy

theorem toVs_rep {C : Imm} {cs : Array Value} {ds : List D} {xs : List V} (hs : cs.size = ds.length) (hr : ∀ k (hk : k < ds.length), RepD C (cs.getD k undef) ds[k]) (h : toVs ds = some xs) :
    cs.size = xs.length ∧ ∀ k (hk : k < xs.length), RepV C (cs.getD k undef) xs[k] := by
  obtain ⟨h2, h3⟩ := toVs_get ds xs h
  exact ⟨hs.trans h2, fun k hk => toV_rep (hr k (by omega)) _ (h3 k (by omega) hk)⟩

/-- A block of pure data becomes immutable: a slot that points to its head may be read as a pointer to the datum. -/
theorem sl_freeze {t b : Nat} {ds : List D} {xs : List V} (hs : s.get t = .ptr b 0) (hx : toVs ds = some xs)
    (c : SL P ops rest Q (sput s (some t) (.rp xs)) δ σ) : SL P ops rest Q s δ (.blk b ds :: σ) := fun G a w hi hr => by
  obtain ⟨cs, ty, fz, h, h1, h2, h3⟩ := hi.holds _ (List.mem_cons_self ..)
  obtain ⟨hle, hi'⟩ := hi.freeze h
  obtain ⟨h4, h5⟩ := toVs_rep h2 h3 hx
  refine SL.use hle c hi' ?_
  refine (hr.mono hle).recast t fun v r => ?_
  rw [hs] at r
  have hv := rep_ptr r
  · rw [hv]
    refine .rp b 0 xs (fun k => cs.getD k undef) (fun k hk => ?_) (fun k hk => (h5 k hk).mono hle.2)
    have hk' : k < cs.size := by omega
    show (if b = b then cs[0 + k]? else G.C b (0 + k)) = _
    rw [if_pos rfl, Nat.zero_add, Array.getElem?_eq_getElem hk', Array.getD_eq_getD_getElem?, Array.getElem?_eq_getElem hk']; rfl

/-! ### Stores -/

theorem run_storeCells {P : Program} : ∀ (vs : List Value) (i : Nat) (w : World) (b f : Nat) (cs : Array Value) (ty : TypeId) (fz : Nat × Nat),
    w.heap[b]? = some (.cells cs ty fz) → (∀ o, o < cs.size → ¬ (fz.1 ≤ o ∧ o < fz.2)) → f + i + vs.length ≤ cs.size → (∀ v ∈ vs, v.oneCell' = true) →
    ∃ w' cs', (storeCells ⟨b, f, none⟩ vs i).run P w = .ok () w' ∧ w'.heap[b]? = some (.cells cs' ty fz) ∧ cs'.size = cs.size ∧
      (∀ k, k < vs.length → cs'.getD (f + i + k) undef = vs.getD k undef) ∧ (∀ k, k < f + i ∨ f + i + vs.length ≤ k → cs'.getD k undef = cs.getD k undef) ∧
      w'.os = w.os ∧ w'.tape = w.tape ∧ w'.output = w.output ∧ w'.heap.size = w.heap.size ∧ ∀ k, k ≠ b → w'.heap[k]? = w.heap[k]?
  | [], i, w, b, f, cs, ty, fz, h, hfz, hsz, hv => ⟨w, cs, rfl, h, rfl, fun k hk => absurd hk (by simp), fun _ _ => rfl, rfl, rfl, rfl, rfl, fun _ _ => rfl⟩
  | v :: vs, i, w, b, f, cs, ty, fz, h, hfz, hsz, hv => by
    simp only [List.length_cons] at hsz
    have hin : f + i < cs.size := by omega
    have hcell : w.cell? ⟨b, f + i, none⟩ = some cs[f + i] := by
      simp only [World.cell?, h, Array.getElem?_eq_getElem hin]; rfl
    have hfr : w.frozen? ⟨b, f + i, none⟩ = false := by
      simp only [World.frozen?, h]
      have := hfz (f + i) hin
      simp only [Bool.and_eq_false_iff, decide_eq_false_iff_not]
      omega
    have hb' : (w.setCell ⟨b, f + i, none⟩ v).heap[b]? = some (.cells (cs.setIfInBounds (f + i) v) ty fz) := by
      simp only [World.setCell, Array.getElem?_modify, if_true, h, Option.map_some]; rfl
    obtain ⟨w', cs', h1, h2, h3, h4, h5, h6, h7, h8, h9, h10⟩ := run_storeCells (P := P) vs (i + 1) (w.setCell ⟨b, f + i, none⟩ v) b f (cs.setIfInBounds (f + i) v) ty fz hb'
      (by simpa using hfz) (by simp; omega) (fun u hu => hv u (List.mem_cons_of_mem _ hu))
    refine ⟨w', cs', ?_, h2, by simpa using h3, fun k hk => ?_, fun k hk => ?_, h6, h7, h8, by simpa using h9, fun k hk => ?_⟩
    · simp only [storeCells, Sem.run_bind, addr_add, run_store P w _ v .plain (hv v (List.mem_cons_self ..)), hcell, hfr, Bool.false_eq_true, if_false, Result.andThen_ok, h1]
    · cases k with
      | zero =>
        rw [h5 _ (by omega)]
        simp [hin]
      | succ k =>
        have := h4 k (by simpa using hk)
        rw [show f + i + (k + 1) = f + (i + 1) + k by omega, this]; rfl
    · rw [h5 k (by simp only [List.length_cons] at hk; omega)]
      have : f + i ≠ k := by simp only [List.length_cons] at hk; omega
      simp only [Array.getD_eq_getD_getElem?, Array.getElem?_setIfInBounds_ne this]
    · rw [h10 k hk, Below.heap_setCell _ _ _ _ (by simpa using hk)]

/-- New cells from place f on. -/
def putAt (ds : List D) (f : Nat) (xs : List D) : List D := ds.take f ++ xs ++ ds.drop (f + xs.length)

theorem putAt_length {ds xs : List D} {f : Nat} (h : f + xs.length ≤ ds.length) : (putAt ds f xs).length = ds.length := by
  simp only [putAt, List.length_append, List.length_take, List.length_drop]; omega

theorem putAt_in {ds xs : List D} {f k : Nat} (h : f + xs.length ≤ ds.length) (hk : k < xs.length) (hk' : f + k < (putAt ds f xs).length) : (putAt ds f xs)[f + k] = xs[k] := by
  have h1 : (ds.take f).length = f := by simp; omega
  simp only [putAt, List.append_assoc]
  rw [List.getElem_append_right (by omega), List.getElem_append_left (by omega)]
  congr 1; omega

theorem putAt_out {ds xs : List D} {f k : Nat} (h : f + xs.length ≤ ds.length) (hk : k < f ∨ f + xs.length ≤ k) (hk' : k < (putAt ds f xs).length) (hk'' : k < ds.length) : (putAt ds f xs)[k] = ds[k] := by
  have h1 : (ds.take f).length = f := by simp; omega
  simp only [putAt, List.append_assoc]
  rcases hk with hk | hk
  · rw [List.getElem_append_left (by omega), List.getElem_take]
  · rw [List.getElem_append_right (by omega), List.getElem_append_right (by omega), List.getElem_drop]
    congr 1; omega

theorem oneCell_of_rep {C : Imm} {v : Value} {d : D} (r : RepD C v d) (hd : d.cells.length = 1 → True) : True := trivial

/-- A cell's datum is no struct. -/
def D.cell : D → Bool
  | .agg _ | .tup _ | .junk => false
  | .val (.agg _) => false
  | _ => true

theorem rep_cell {C : Imm} {v : Value} {d : D} (r : RepD C v d) (h : d.cell = true) : v.oneCell' = true ∧ v.cells = #[v] := by
  cases r with
  | val _ x hx => cases hx <;> first | exact ⟨rfl, rfl⟩ | simp [D.cell] at h
  | agg => simp [D.cell] at h
  | tup => simp [D.cell] at h
  | junk => simp [D.cell] at h
  | own v xs hx => cases hx <;> exact ⟨rfl, rfl⟩
  | _ => exact ⟨rfl, rfl⟩

/-- A store into an owned block (the first of them). -/
theorem sl_store0 {t : TypeId} {x y : Operand} {b f n : Nat} {ds : List D} (hg : o.guard = none) (ho : o.op = .store t x y) (hx : evalO s x = .ptr b f)
    (hn : szOf P t = some n) (hk : (evalO s y).known = true) (hc : ∀ d ∈ (evalO s y).cells, d.cell = true) (hl : (evalO s y).cells.length = n) (hle : f + n ≤ ds.length)
    (c : SL P ops rest Q (sput s o.dst .junk) δ (.blk b (putAt ds f (evalO s y).cells) :: σ)) : SL P ops (o :: rest) Q s δ (.blk b ds :: σ) :=
  sl_skip hg fun G a w hi hr => by
    have h1 := hr.eval x; rw [hx] at h1; have e1 := rep_ptr h1
    obtain ⟨h2, h3⟩ := rep_cells (hr.eval y) hk
    obtain ⟨cs, ty, fz, h, hfz, hsz, hrep⟩ := hi.holds _ (List.mem_cons_self ..)
    have hone : ∀ v ∈ (a.eval y).cells.toList, v.oneCell' = true := by
      intro v hv
      obtain ⟨k, hk, rfl⟩ := List.getElem_of_mem hv
      have hk1 : k < (a.eval y).cells.size := by simpa using hk
      have hk2 : k < (evalO s y).cells.length := by omega
      have := h3 k hk2
      simp only [Array.getD_eq_getD_getElem?, Array.getElem?_eq_getElem hk1, Option.getD_some] at this
      simpa using (rep_cell this (hc _ (List.getElem_mem hk2))).1
    have hlen : (a.eval y).cells.toList.length = n := by rw [Array.length_toList, h2, hl]
    obtain ⟨w', cs', g1, g2, g3, g4, g5, g6, g7, g8, g9, g10⟩ := run_storeCells (P := P) (a.eval y).cells.toList 0 w b f cs ty fz h hfz (by omega) hone
    refine ⟨w', G, .blk b (putAt ds f (evalO s y).cells) :: σ, ?_, G.le_refl, ?_, c⟩
    · have hsz2 : (a.eval y).cells.size = n := by rw [h2, hl]
      simp only [execOp, ho, e1, Instr.storeAt, Instr.sureAddr, storeVar, Sem.run_bind, Sem.run_pure, Result.andThen_ok, run_sizeOf hn, hsz2, ne_eq, not_true_eq_false, if_false, g1]
    · have hpl : (putAt ds f (evalO s y).cells).length = ds.length := putAt_length (by omega)
      refine hi.change (c := .blk b ds) (c' := .blk b (putAt ds f (evalO s y).cells)) rfl (fun x e => by simpa [Chunk.b?] using e.symm) G.le_refl (fun x o v hv => .inl hv) g6 g7 g8 g9 g10
        (fun o v hv => by rw [hi.apart (.blk b ds) (List.mem_cons_self ..) b o rfl] at hv; cases hv) ⟨cs', ty, fz, g2, by rw [g3]; exact hfz, by rw [g3, hpl]; exact hsz, fun k hk => ?_⟩
        (fun x o e => hi.apart (.blk b ds) (List.mem_cons_self ..) x o e)
      by_cases hin : f ≤ k ∧ k < f + n
      · obtain ⟨j, rfl⟩ : ∃ j, k = f + j := ⟨k - f, by omega⟩
        have hj : j < (evalO s y).cells.length := by omega
        rw [putAt_in (by omega) hj hk]
        have := g4 j (by omega)
        simp only [Nat.add_zero] at this
        rw [this]
        have := h3 j hj
        have hj' : j < (a.eval y).cells.size := by omega
        simpa [hj'] using this
      · rw [putAt_out (by omega) (by omega) hk (by omega)]
        rw [g5 k (by omega)]
        exact hrep k (by omega)

end rules
end Go.Proofs.Ytioechdfghglhaa.SL
