/- The program logic, sixth part: structs and lists that are made, append, len, slices, calls. -/
import Derived.Test.YtioechdfghglhaaSlE
namespace Go.Proofs.Ytioechdfghglhaa.SL
set_option linter.unusedVariables false
set_option linter.unusedSimpArgs false
open Go Go.RowKit

/-! ### Parts -/

theorem foldl_set (off : Nat) : ∀ (l : List Value) (i : Nat) (cs : Array Value), off + i + l.length ≤ cs.size →
    ((l.zipIdx i).foldl (fun cs (x : Value × Nat) => cs.setIfInBounds (off + x.2) x.1) cs).size = cs.size ∧
    (∀ k, k < l.length → ((l.zipIdx i).foldl (fun cs (x : Value × Nat) => cs.setIfInBounds (off + x.2) x.1) cs).getD (off + i + k) undef = l.getD k undef) ∧
    ∀ k, k < off + i ∨ off + i + l.length ≤ k → ((l.zipIdx i).foldl (fun cs (x : Value × Nat) => cs.setIfInBounds (off + x.2) x.1) cs).getD k undef = cs.getD k undef
  | [], i, cs, h => ⟨rfl, fun k hk => absurd hk (by simp), fun _ _ => rfl⟩
  | v :: l, i, cs, h => by
    simp only [List.length_cons] at h
    obtain ⟨h1, h2, h3⟩ := foldl_set off l (i + 1) (cs.setIfInBounds (off + i) v) (by simp; omega)
    simp only [List.zipIdx_cons, List.foldl_cons]
    refine ⟨by simpa using h1, fun k hk => ?_, fun k hk => ?_⟩
    · cases k with
      | zero =>
        rw [h3 _ (by omega)]
        have : off + i < cs.size := by omega
        simp [this]
      | succ k =>
        have := h2 k (by simpa using hk)
        rw [show off + i + (k + 1) = off + (i + 1) + k by omega, this]; rfl
    · simp only [List.length_cons] at hk
      rw [h3 k (by omega)]
      have : off + i ≠ k := by omega
      simp only [Array.getD_eq_getD_getElem?, Array.getElem?_setIfInBounds_ne this]

/-- As 'Instr.fill', over data. -/
def fillD (place : Nat → Option (Nat × Nat)) (ds : List D) : List (Nat × D) → Option (List D)
  | [] => some ds
  | (i, d) :: rest =>
    match place i with
    | none => none
    | some (off, size) => if d.known = true ∧ d.cells.length = size ∧ off + size ≤ ds.length then fillD place (putAt ds off d.cells) rest else none

theorem fill_rep {C : Imm} {place : Nat → Option (Nat × Nat)} {ρ : Operand → Value} {ε : Operand → D} (hρ : ∀ x, RepD C (ρ x) (ε x)) : ∀ (parts : List (Nat × Operand)) (cs : Array Value) (ds ds' : List D),
    cs.size = ds.length → (∀ k (hk : k < ds.length), RepD C (cs.getD k undef) ds[k]) → fillD place ds (parts.map fun p => (p.1, ε p.2)) = some ds' →
    ∃ cs', Instr.fill place cs (parts.map fun p => (p.1, ρ p.2)) = some cs' ∧ cs'.size = ds'.length ∧ ∀ k (hk : k < ds'.length), RepD C (cs'.getD k undef) ds'[k]
  | [], cs, ds, ds', hs, hr, h => by
    simp only [List.map_nil, fillD, Option.some.injEq] at h; subst h
    exact ⟨cs, rfl, hs, hr⟩
  | (i, x) :: parts, cs, ds, ds', hs, hr, h => by
    simp only [List.map_cons, fillD] at h
    split at h
    · cases h
    · rename_i off size hp
      split at h
      · rename_i hc
        obtain ⟨hk, hl, hle⟩ := hc
        obtain ⟨h1, h2⟩ := rep_cells (hρ x) hk
        have hle' : off + (ε x).cells.length ≤ ds.length := by omega
        obtain ⟨g1, g2, g3⟩ := foldl_set off (ρ x).cells.toList 0 cs (by rw [Array.length_toList]; omega)
        simp only [Nat.add_zero, Array.length_toList] at g2 g3
        have hpl := putAt_length (f := off) (xs := (ε x).cells) hle'
        obtain ⟨cs', e1, e2, e3⟩ := fill_rep hρ parts _ (putAt ds off (ε x).cells) ds' (by rw [g1, hpl]; exact hs) (fun k hk => by
          by_cases hin : off ≤ k ∧ k < off + (ε x).cells.length
          · obtain ⟨j, rfl⟩ : ∃ j, k = off + j := ⟨k - off, by omega⟩
            have hj : j < (ε x).cells.length := by omega
            rw [putAt_in hle' hj hk, g2 j (by omega)]
            have := h2 j hj
            have hj' : j < (ρ x).cells.size := by omega
            simpa [hj'] using this
          · rw [putAt_out hle' (by omega) hk (by omega), g3 k (by omega)]
            exact hr k (by omega)) h
        refine ⟨cs', ?_, e2, e3⟩
        simp only [List.map_cons, Instr.fill, hp]
        have c1 : ¬ ((ρ x).cells.size ≠ size ∨ off + (ρ x).cells.size > cs.size) := by omega
        simp only [bne_iff_ne, decide_eq_true_eq, Bool.or_eq_true, c1, if_false, ne_eq]
        rw [← Array.foldl_toList, Array.toList_zipIdx]
        exact e1
      · cases h

def buildInfo (P : Program) (t : TypeId) : Option (List (Nat × Nat)) :=
  match P.underlying t with
  | some (.struct fs) => fs.toList.mapM fun f => (szOf P f.type).map fun n => (f.offset, n)
  | _ => none

theorem buildInfo_run {P : Program} {t : TypeId} {l : List (Nat × Nat)} (h : buildInfo P t = some l) : ∃ fs, P.underlying t = some (.struct fs) ∧
    ∀ w, (fs.mapM fun f => do pure (f.offset, ← sizeOf f.type) : Sem (Array (Nat × Nat))).run P w = .ok l.toArray w := by
  unfold buildInfo at h
  split at h
  · rename_i fs hu
    refine ⟨fs, hu, fun w => ?_⟩
    have key : ∀ (fs : List Field) (l : List (Nat × Nat)), (fs.mapM fun f => (szOf P f.type).map fun n => (f.offset, n)) = some l →
        (fs.mapM fun f => do pure (f.offset, ← sizeOf f.type) : Sem (List (Nat × Nat))).run P w = .ok l w := by
      intro fs
      induction fs with
      | nil => intro l h; simp at h; subst h; rfl
      | cons f fs ih =>
        intro l h
        simp only [List.mapM_cons, Option.bind_eq_bind, Option.bind_eq_some_iff, Option.map_eq_some_iff] at h
        obtain ⟨x, ⟨n, hn, rfl⟩, ys, hys, h⟩ := h
        cases h
        simp only [List.mapM_cons, Sem.run_bind, run_sizeOf hn, Result.andThen_ok, Sem.run_pure, ih ys hys]
    have : fs = fs.toList.toArray := by simp
    rw [this, List.mapM_toArray, Sem.run_map, key _ _ h]
    rfl
  · cases h

theorem getD_map_junk (n k : Nat) (C : Imm) (v : Value) (hk : k < (List.replicate n D.junk).length) : RepD C v (List.replicate n D.junk)[k] := by
  rw [List.getElem_replicate]; exact .junk _

section rules
variable {P : Program} {ops : Array Oper} {Q : Post} {s : Slots} {δ : Defs} {σ : List Chunk} {o : Oper} {rest : List Oper}

theorem sl_build {t : TypeId} {parts : List (Nat × Operand)} {pl : List (Nat × Nat)} {zs ds : List D} (hg : o.guard = none) (ho : o.op = .build t parts.toArray)
    (hp : buildInfo P t = some pl) (hz : zeroDs P t = some zs) (hf : fillD (fun i => pl[i]?) zs (parts.map fun p => (p.1, evalO s p.2)) = some ds)
    (c : SL P ops rest Q (sput s o.dst (.agg ds)) δ σ) : SL P ops (o :: rest) Q s δ σ :=
  sl_pure hg (fun G a w hi hr => by
    obtain ⟨fs, hu, hrun⟩ := buildInfo_run hp
    obtain ⟨v, hv, hvr⟩ := zero_cells hz
    obtain ⟨cs', h1, h2, h3⟩ := fill_rep (C := G.C) (fun x => hr.eval x) parts v.cells zs ds (hvr G.C).1 (hvr G.C).2 hf
    refine ⟨.agg cs', ?_, .agg _ _ h2 h3⟩
    have hpl : ∀ i, pl.toArray[i]? = pl[i]? := fun i => List.getElem?_toArray ..
    have hm : (parts.toArray.map fun (i, x) => (i, a.eval x)).toList = parts.map fun p => (p.1, a.eval p.2) := by rw [List.map_toArray]
    simp only [execOp, ho, Instr.build, Sem.run_bind, run_zeroOf hv, Result.andThen_ok, run_under hu, hrun w, hm, hpl, h1, Sem.run_pure]) c

theorem flat_get {xs : List V} {sz : Nat} (h : ∀ x ∈ xs, x.cells.length = sz) : (xs.flatMap V.cells).length = xs.length * sz ∧
    ∀ i k (hi : i < xs.length) (hk : k < (xs[i]).cells.length), (xs.flatMap V.cells)[i * sz + k]? = some ((xs[i]).cells[k]) := by
  induction xs with
  | nil => exact ⟨by simp, fun i k hi => absurd hi (by simp)⟩
  | cons x xs ih =>
    obtain ⟨h1, h2⟩ := ih (fun y hy => h y (List.mem_cons_of_mem _ hy))
    have hx := h x (List.mem_cons_self ..)
    refine ⟨by simp only [List.flatMap_cons, List.length_append, List.length_cons, h1, hx, Nat.add_mul]; omega, fun i k hi hk => ?_⟩
    cases i with
    | zero =>
      simp only [List.getElem_cons_zero] at hk ⊢
      simp only [Nat.zero_mul, Nat.zero_add, List.flatMap_cons]
      rw [List.getElem?_append_left hk, List.getElem?_eq_getElem hk]
    | succ i =>
      simp only [List.getElem_cons_succ] at hk ⊢
      have hi' : i < xs.length := by simpa using hi
      rw [List.flatMap_cons, List.getElem?_append_right (by rw [hx, Nat.add_mul]; omega)]
      rw [show (i + 1) * sz + k - x.cells.length = i * sz + k by rw [hx, Nat.add_mul]; omega]
      exact h2 i k hi' hk

/-- A row of cells that hold, one behind the other, a list's data: what a slice over it reads as. -/
theorem list_of_flat {C : Imm} {b f n : Nat} {xs : List V} {sz : Nat} {cs : Array Value} (hsz : ∀ x ∈ xs, x.cells.length = sz) (hn : xs.length ≤ n)
    (hC : ∀ k, k < xs.length * sz → C b (f + k) = some (cs.getD (f + k) undef)) (hr : ∀ k (y : V), (xs.flatMap V.cells)[k]? = some y → RepV C (cs.getD (f + k) undef) y) :
    RepV C (.slice (some ⟨b, f, none⟩) xs.length n) (.list xs) := by
  refine .list b f n sz xs (fun i k => cs.getD (f + (i * sz + k)) undef) hn (fun i h => hsz _ (List.getElem_mem h)) (fun i k hi hk => ?_) (fun i k hi hk => hr _ _ ((flat_get hsz).2 i k hi hk))
  rw [Nat.add_assoc]
  refine hC _ ?_
  have : (i + 1) * sz ≤ xs.length * sz := Nat.mul_le_mul_right _ hi
  rw [Nat.add_mul] at this; omega

theorem sl_buildSlice {t e : TypeId} {len sz : Nat} {parts : List (Nat × Operand)} {ds : List D} {xs : List V} (hg : o.guard = none) (ho : o.op = .buildSlice t len parts.toArray)
    (ht : P.underlying t = some (.slice e)) (hs : szOf P e = some sz) (hz : (zeroOf P e).isSome = true) (hlim : len * sz ≤ 16777216)
    (hf : fillD (fun i => some (i * sz, sz)) (List.replicate (len * sz) .junk) (parts.map fun p => (p.1, evalO s p.2)) = some ds) (hx : toVs ds = some (xs.flatMap V.cells))
    (hl : xs.length = len) (hxs : ∀ x ∈ xs, x.cells.length = sz)
    (c : SL P ops rest Q (sput s o.dst (.fix xs)) δ σ) : SL P ops (o :: rest) Q s δ σ :=
  sl_op hg fun G a w hi hr => by
    obtain ⟨zv, hzv⟩ := Option.isSome_iff_exists.mp hz
    generalize hzero : (if len * sz = 0 then #[] else zv.cells) = zero
    obtain ⟨cs', h1, h2, h3⟩ := fill_rep (C := G.C) (place := fun i => some (i * sz, sz)) (fun x => hr.eval x) parts ((Array.range (len * sz)).map (zero[· % zero.size]!)) (List.replicate (len * sz) .junk) ds
      (by simp) (fun k hk => getD_map_junk _ _ _ _ hk) hf
    have hi1 := hi.alloc (ty := e) h2 h3
    obtain ⟨hle, hi2⟩ := hi1.freeze (heap_new w _)
    obtain ⟨h4, h5⟩ := toVs_rep h2 h3 hx
    subst hl
    have hfl := (flat_get hxs).1
    refine ⟨.slice (some ⟨w.heap.size, 0, none⟩) xs.length xs.length, w.alloc (.cells cs' e), G.freeze w.heap.size cs', .fix xs, σ, ?_, hle, hi2, .fix _ _ ?_, c⟩
    · have hm : (parts.toArray.map fun (i, x) => (i, a.eval x)).toList = parts.map fun p => (p.1, a.eval p.2) := by rw [List.map_toArray]
      have hlim' : ¬ (xs.length * sz > 2 ^ 24) := by simp; omega
      simp only [execOp, ho, Instr.buildSlice, Sem.run_bind, run_under ht, Result.andThen_ok, run_sizeOf hs, hlim', if_false, Sem.run_pure, hm]
      by_cases h0 : xs.length * sz = 0
      · rw [if_pos h0] at hzero
        subst hzero
        simp only [h0, if_true, Sem.run_bind, Sem.run_pure, Result.andThen_ok] at h1 ⊢
        simp only [h1, newRow, Sem.run_bind, run_newObj, Sem.run_pure, Result.andThen_ok]
        rfl
      · rw [if_neg h0] at hzero
        subst hzero
        simp only [h0, if_false, Sem.run_bind, run_zeroOf hzv, Sem.run_pure, Result.andThen_ok, h1, newRow, run_newObj]
        rfl
    · refine list_of_flat hxs (Nat.le_refl _) (cs := cs') (fun k hk => ?_) (fun k y hy => ?_)
      · have hk' : k < cs'.size := by omega
        show (if w.heap.size = w.heap.size then cs'[0 + k]? else G.C w.heap.size (0 + k)) = _
        rw [if_pos rfl, Nat.zero_add, Array.getElem?_eq_getElem hk', Array.getD_eq_getD_getElem?, Array.getElem?_eq_getElem hk']; rfl
      · obtain ⟨hk, rfl⟩ := List.getElem?_eq_some_iff.mp hy
        rw [Nat.zero_add]
        exact (h5 k hk).mono hle.2

/-! ### Lengths -/

def D.asList : D → Option (List V)
  | .val (.list xs) => some xs
  | .fix xs => some xs
  | .own _ xs => some xs
  | _ => none

theorem asList_rep {C : Imm} {v : Value} {d : D} {xs : List V} (r : RepD C v d) (h : d.asList = some xs) : RepV C v (.list xs) := by
  unfold D.asList at h
  split at h <;> simp only [Option.some.injEq, reduceCtorEq] at h <;> subst h
  · cases r with | val _ _ h => exact h
  · cases r with | fix _ _ h => exact h
  · cases r with | own _ _ h => exact h

theorem rep_list_len {C : Imm} {v : Value} {xs : List V} (r : RepV C v (.list xs)) : ∃ a c, v = .slice a xs.length c ∧ xs.length ≤ c := by
  cases r with
  | empty a c => exact ⟨a, c, rfl, Nat.zero_le _⟩
  | list b f c sz xs vs hc => exact ⟨_, c, rfl, hc⟩

theorem run_call_builtin {ρ : Operand → Value} {bi : Builtin} {args : Array Operand} {at' : Array TypeId} (ho : o.op = .call { callee := .builtin bi, args := args, argTypes := at' }) {w w' : World} {n : Next}
    (h : (builtin bi at' o.type (args.map fun | .const _ => true | _ => false) (args.map ρ)).run P w = .ok n w') : (execOp ρ o).run P w = .ok n w' := by
  simp only [execOp, ho, resolve, invoke, Sem.run_bind, Sem.run_pure, Result.andThen_ok]
  exact h

theorem sl_len {t : TypeId} {x : Operand} {xs : List V} (hg : o.guard = none) (ho : o.op = .call { callee := .builtin .len, args := #[x], argTypes := #[t] })
    (hx : (evalO s x).asList = some xs) (ht : ∃ e, P.underlying t = some (.slice e))
    (c : SL P ops rest Q (sput s o.dst (.val (.int .i64 xs.length))) δ σ) : SL P ops (o :: rest) Q s δ σ :=
  sl_pure hg (fun G a w hi hr => by
    obtain ⟨e, he⟩ := ht
    obtain ⟨ad, cp, hv, _⟩ := rep_list_len (asList_rep (hr.eval x) hx)
    refine ⟨_, run_call_builtin ho ?_, rep_bin (.int _ _)⟩
    simp only [builtin, List.map_toArray, List.map_cons, List.map_nil, Builtin.len_, Sem.run_bind, hv]
    simp only [List.getElem?_toArray, List.getElem?_cons_zero, Sem.run_bind, run_under he, Result.andThen_ok, Sem.run_pure, goInt]) c

theorem sl_len_str {t : TypeId} {x : Operand} {l : List UInt8} (hg : o.guard = none) (ho : o.op = .call { callee := .builtin .len, args := #[x], argTypes := #[t] })
    (hx : evalO s x = .val (.str l)) (ht : P.underlying t = some .string)
    (c : SL P ops rest Q (sput s o.dst (.val (.int .i64 l.length))) δ σ) : SL P ops (o :: rest) Q s δ σ :=
  sl_pure hg (fun G a w hi hr => by
    have h1 := hr.eval x; rw [hx] at h1; obtain ⟨t1, e1, rfl⟩ := rep_str h1
    refine ⟨_, run_call_builtin ho ?_, rep_bin (.int _ _)⟩
    simp only [builtin, List.map_toArray, List.map_cons, List.map_nil, Builtin.len_, Sem.run_bind, e1]
    simp only [List.getElem?_toArray, List.getElem?_cons_zero, Sem.run_bind, run_under ht, Result.andThen_ok, Sem.run_pure, goInt, Array.length_toList]
    rfl) c

end rules
end Go.Proofs.Ytioechdfghglhaa.SL
