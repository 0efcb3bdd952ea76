/- The program logic, fifteenth part: slices whose elements are written. -/
import Derived.Test.YtioechdfghglhaaSlN
namespace Go.Proofs.Ytioechdfghglhaa.SL
set_option linter.unusedVariables false
set_option linter.unusedSimpArgs false
open Go Go.RowKit

/-- Rows, one behind the other, and what lies behind them. -/
def rowsD (rows : List (List D)) (zs : List D) : List D := rows.flatten ++ zs
def RowsOk (sz : Nat) (rows : List (List D)) : Prop := ∀ r ∈ rows, r.length = sz
def rowOf (y : V) : List D := y.cells.map D.val

theorem rows_flat_len {sz : Nat} : ∀ {rows : List (List D)}, RowsOk sz rows → rows.flatten.length = rows.length * sz
  | [], _ => by simp
  | r :: rows, h => by
    rw [List.flatten_cons, List.length_append, rows_flat_len (fun x hx => h x (List.mem_cons_of_mem _ hx)), h r (List.mem_cons_self ..), List.length_cons, Nat.add_mul]
    omega

theorem rows_len {sz : Nat} {rows : List (List D)} {zs : List D} (h : RowsOk sz rows) : (rowsD rows zs).length = rows.length * sz + zs.length := by
  rw [rowsD, List.length_append, rows_flat_len h]

theorem putAt_left {ds es xs : List D} {f : Nat} (h : f + xs.length ≤ ds.length) : putAt (ds ++ es) f xs = putAt ds f xs ++ es := by
  unfold putAt
  rw [List.take_append_of_le_length (by omega), List.drop_append_of_le_length (by omega)]
  simp only [List.append_assoc]

theorem putAt_right {ds es xs : List D} {f : Nat} : putAt (ds ++ es) (ds.length + f) xs = ds ++ putAt es f xs := by
  unfold putAt
  rw [List.take_append, List.take_of_length_le (Nat.le_add_right _ _), Nat.add_sub_cancel_left, List.drop_append, List.drop_eq_nil_of_le (by omega)]
  simp only [List.append_assoc, List.nil_append]
  rw [show ds.length + f + xs.length - ds.length = f + xs.length by omega]

theorem rows_at {sz : Nat} : ∀ {rows : List (List D)} {zs : List D} {i : Nat} {r : List D}, RowsOk sz rows → rows[i]? = some r → ∃ pre post, rowsD rows zs = pre ++ (r ++ post) ∧ pre.length = i * sz ∧
    ∀ r', r'.length = sz → rowsD (rows.set i r') zs = pre ++ (r' ++ post)
  | [], zs, i, r, _, h => by simp at h
  | r0 :: rows, zs, 0, r, hk, h => by
    simp only [List.getElem?_cons_zero, Option.some.injEq] at h
    subst h
    exact ⟨[], rows.flatten ++ zs, by simp [rowsD], by simp, fun r' _ => by simp [rowsD]⟩
  | r0 :: rows, zs, i + 1, r, hk, h => by
    simp only [List.getElem?_cons_succ] at h
    obtain ⟨pre, post, h1, h2, h3⟩ := rows_at (zs := zs) (fun x hx => hk x (List.mem_cons_of_mem _ hx)) h
    refine ⟨r0 ++ pre, post, ?_, ?_, fun r' hr' => ?_⟩
    · rw [List.append_assoc, ← h1]; simp [rowsD]
    · rw [List.length_append, hk r0 (List.mem_cons_self ..), h2, Nat.add_mul]; omega
    · rw [List.append_assoc, ← h3 r' hr']; simp [rowsD]

theorem rows_get {sz off i : Nat} {rows : List (List D)} {zs r : List D} {d : D} (hk : RowsOk sz rows) (h : rows[i]? = some r) (hd : r[off]? = some d) : (rowsD rows zs)[i * sz + off]? = some d := by
  obtain ⟨pre, post, h1, h2, _⟩ := rows_at (zs := zs) hk h
  have hlt := (List.getElem?_eq_some_iff.mp hd).1
  rw [h1, List.getElem?_append_right (by omega), List.getElem?_append_left (by omega), ← hd]
  congr 1; omega

theorem rows_take {sz off i n : Nat} {rows : List (List D)} {zs r : List D} (hk : RowsOk sz rows) (h : rows[i]? = some r) (hn : off + n ≤ r.length) : ((rowsD rows zs).drop (i * sz + off)).take n = (r.drop off).take n := by
  obtain ⟨pre, post, h1, h2, _⟩ := rows_at (zs := zs) hk h
  rw [h1, ← h2, List.drop_append, List.drop_eq_nil_of_le (by omega), List.nil_append, Nat.add_sub_cancel_left, List.drop_append_of_le_length (by omega), List.take_append_of_le_length (by rw [List.length_drop]; omega)]

theorem rows_put {sz off i : Nat} {rows : List (List D)} {zs r xs : List D} (hk : RowsOk sz rows) (h : rows[i]? = some r) (hn : off + xs.length ≤ r.length) : putAt (rowsD rows zs) (i * sz + off) xs = rowsD (rows.set i (putAt r off xs)) zs := by
  obtain ⟨pre, post, h1, h2, h3⟩ := rows_at (zs := zs) hk h
  have hr : r.length = sz := hk r (List.mem_of_getElem? h)
  rw [h3 _ (by rw [putAt_length hn, hr]), h1, ← h2, putAt_right, putAt_left hn]

theorem rows_le {sz i : Nat} {rows : List (List D)} {zs r : List D} (hk : RowsOk sz rows) (h : rows[i]? = some r) : i * sz + sz ≤ (rowsD rows zs).length := by
  have hlt := (List.getElem?_eq_some_iff.mp h).1
  rw [rows_len hk]
  have : (i + 1) * sz ≤ rows.length * sz := Nat.mul_le_mul_right _ hlt
  rw [Nat.add_mul] at this; omega

theorem rowsOk_map {α : Type} {f : α → V} {sz : Nat} {l : List α} (h : ∀ a, (f a).cells.length = sz) : RowsOk sz ((l.map f).map rowOf) := fun r hr => by
  obtain ⟨y, hy, rfl⟩ := List.mem_map.mp hr
  obtain ⟨a, _, rfl⟩ := List.mem_map.mp hy
  rw [rowOf, List.length_map]; exact h a

theorem rows_cells : ∀ (ys : List V), (ys.map rowOf).flatten = (ys.flatMap V.cells).map D.val
  | [] => rfl
  | y :: ys => by
    simp only [List.map_cons, List.flatten_cons, List.flatMap_cons, List.map_append, rows_cells ys]; rfl

theorem rows_map_get {α : Type} {f : α → V} {l : List α} {i : Nat} {a : α} (h : l[i]? = some a) : ((l.map f).map rowOf)[i]? = some (rowOf (f a)) := by
  rw [List.getElem?_map, List.getElem?_map, h]; rfl

theorem rows_map_set {α : Type} {f : α → V} {l : List α} {i : Nat} {a : α} {r : List D} (h : r = rowOf (f a)) : ((l.map f).map rowOf).set i r = ((l.set i a).map f).map rowOf := by
  rw [h, List.map_set, List.map_set]

section rules
variable {P : Program} {ops : Array Oper} {Q : Post} {s : Slots} {δ : Defs} {σ : List Chunk} {K : Exacts} {o : Oper} {rest : List Oper}

theorem sl_len_sl {t : TypeId} {x : Operand} {b f n c : Nat} (hg : o.guard = none) (ho : o.op = .call { callee := .builtin .len, args := #[x], argTypes := #[t] })
    (hx : evalO s x = .sl b f n c) (ht : ∃ e, P.underlying t = some (.slice e))
    (k : SL P ops rest Q (sput s o.dst (.val (.int .i64 n))) δ σ) : SL P ops (o :: rest) Q s δ σ :=
  sl_pure hg (fun G a w hi hr => by
    obtain ⟨e, he⟩ := ht
    have h1 := hr.eval x; rw [hx] at h1; have hv := rep_sl h1
    refine ⟨_, run_call_builtin ho ?_, rep_bin (.int _ _)⟩
    simp only [builtin, List.map_toArray, List.map_cons, List.map_nil, Builtin.len_, Sem.run_bind, hv]
    simp only [List.getElem?_toArray, List.getElem?_cons_zero, Sem.run_bind, run_under he, Result.andThen_ok, Sem.run_pure, goInt]) k

theorem pu_len_sl {t : TypeId} {x : Operand} {b f n c : Nat} (ho : o.op = .call { callee := .builtin .len, args := #[x], argTypes := #[t] })
    (hx : evalO s x = .sl b f n c) (ht : ∃ e, P.underlying t = some (.slice e)) : PureOp P K s δ o (.val (.int .i64 n)) := fun G a hr => by
  obtain ⟨e, he⟩ := ht
  have h1 := hr.eval x; rw [hx] at h1; have hv := rep_sl h1
  refine ⟨_, rep_bin (.int _ _), fun w _ => run_call_builtin ho ?_⟩
  simp only [builtin, List.map_toArray, List.map_cons, List.map_nil, Builtin.len_, Sem.run_bind, hv]
  simp only [List.getElem?_toArray, List.getElem?_cons_zero, Sem.run_bind, run_under he, Result.andThen_ok, Sem.run_pure, goInt]

theorem run_index_sl {G : Gh} {a : Act} {t e : TypeId} {x i : Operand} {k : IntKind} {j b n c sz : Nat} (hr : RelA G s δ a) (ho : o.op = .indexAddr t x i)
    (hx : evalO s x = .sl b 0 n c) (hn : evalO s i = .val (.int k (j : Int))) (ht : P.underlying t = some (.slice e)) (hs : szOf P e = some sz) (hlt : j < n) (w : World) :
    (execOp a.eval o).run P w = .ok (.value (.pointer (some ⟨b, j * sz, none⟩))) w := by
  have h1 := hr.eval x; rw [hx] at h1; have hv := rep_sl h1
  have h2 := hr.eval i; rw [hn] at h2; have e2 := rep_int h2
  have hin : 0 ≤ (j : Int) ∧ (j : Int) < (n : Int) := ⟨by omega, by omega⟩
  simp only [execOp, ho, hv, e2, Instr.indexAt, asIntOf, Sem.run_bind, Sem.run_pure, Result.andThen_ok, run_under ht, hin, and_self, if_true, run_sizeOf hs, addr_add, Int.toNat_natCast, Nat.zero_add]

theorem sl_index_sl {t e : TypeId} {x i : Operand} {k : IntKind} {b n c sz : Nat} (j : Nat) (hg : o.guard = none) (ho : o.op = .indexAddr t x i)
    (hx : evalO s x = .sl b 0 n c) (hn : evalO s i = .val (.int k (j : Int))) (ht : P.underlying t = some (.slice e)) (hs : szOf P e = some sz) (hlt : j < n)
    (kk : SL P ops rest Q (sput s o.dst (.ptr b (j * sz))) δ σ) : SL P ops (o :: rest) Q s δ σ :=
  sl_pure hg (fun G a w hi hr => ⟨_, run_index_sl hr ho hx hn ht hs hlt w, .ptr _ _⟩) kk

theorem pu_index_sl {t e : TypeId} {x i : Operand} {k : IntKind} {b n c sz : Nat} (j : Nat) (ho : o.op = .indexAddr t x i)
    (hx : evalO s x = .sl b 0 n c) (hn : evalO s i = .val (.int k (j : Int))) (ht : P.underlying t = some (.slice e)) (hs : szOf P e = some sz) (hlt : j < n) : PureOp P K s δ o (.ptr b (j * sz)) := fun G a hr =>
  ⟨_, .ptr _ _, fun w _ => run_index_sl hr ho hx hn ht hs hlt w⟩

/-- One cell of a row. -/
theorem sl_load_row1 {t : TypeId} {x : Operand} {b sz : Nat} {rows : List (List D)} {zs r : List D} {d : D} (i off : Nat) (hg : o.guard = none) (ho : o.op = .load t x) (hx : evalO s x = .ptr b (i * sz + off))
    (ht : aggOf P t = some false) (hm : (.blk b (rowsD rows zs)) ∈ σ) (hk : RowsOk sz rows) (hr : rows[i]? = some r) (hd : r[off]? = some d)
    (c : SL P ops rest Q (sput s o.dst d) δ σ) : SL P ops (o :: rest) Q s δ σ := sl_load_blk1 hg ho hx ht hm (rows_get hk hr hd) c

/-- Some cells of a row, as a struct. -/
theorem sl_load_rown {t : TypeId} {x : Operand} {b sz n : Nat} {rows : List (List D)} {zs r : List D} (i off : Nat) (hg : o.guard = none) (ho : o.op = .load t x) (hx : evalO s x = .ptr b (i * sz + off))
    (ht : aggOf P t = some true) (hn : szOf P t = some n) (hm : (.blk b (rowsD rows zs)) ∈ σ) (hk : RowsOk sz rows) (hr : rows[i]? = some r) (hle : off + n ≤ sz)
    (c : SL P ops rest Q (sput s o.dst (.agg ((r.drop off).take n))) δ σ) : SL P ops (o :: rest) Q s δ σ := by
  have hl : r.length = sz := hk r (List.mem_of_getElem? hr)
  have := rows_le (zs := zs) hk hr
  refine sl_load_blkn hg ho hx ht hn hm (by omega) ?_
  rw [rows_take hk hr (by omega)]; exact c

/-- A store into a row (its block is the first). -/
theorem sl_store_row {t : TypeId} {x y : Operand} {b sz n : Nat} {rows rows' : List (List D)} {zs r : List D} {d : D} (i off : Nat) (hg : o.guard = none) (ho : o.op = .store t x y) (hx : evalO s x = .ptr b (i * sz + off)) (hd : opd s y = some d)
    (hn : szOf P t = some n) (hkn : d.known = true) (hc : d.cells.all D.cell = true) (hl : d.cells.length = n) (hk : RowsOk sz rows) (hr : rows[i]? = some r) (hle : off + n ≤ sz) (he : rows.set i (putAt r off d.cells) = rows')
    (c : SL P ops rest Q (sput s o.dst .junk) δ (.blk b (rowsD rows' zs) :: σ)) : SL P ops (o :: rest) Q s δ (.blk b (rowsD rows zs) :: σ) := by
  have hrl : r.length = sz := hk r (List.mem_of_getElem? hr)
  have := rows_le (zs := zs) hk hr
  refine sl_st hg ho hx hd hn hkn hc hl (by omega) ?_
  rw [rows_put hk hr (by omega), he]; exact c

/-- append to nothing: a new block, that is owned. -/
theorem sl_append_new {t u e : TypeId} {x y : Operand} {ys : List V} {sz bytes : Nat} (hg : o.guard = none) (ho : o.op = .call { callee := .builtin .append, args := #[x, y], argTypes := #[t, u] })
    (hx : evalO s x = .fix []) (hy : (evalO s y).asList = some ys) (ht : P.underlying t = some (.slice e)) (hu : ∃ d, P.underlying u = some d ∧ isInt d = false)
    (he : elOf P e = some (sz, bytes)) (hys : Sized sz ys) (hfit : ys.length * bytes ≤ 140737488355328)
    (c0 : ys = [] → SL P ops rest Q (sput s o.dst (.fix [])) δ σ)
    (c1 : ∀ b c zs, ys ≠ [] → ys.length ≤ c → SL P ops rest Q (sput s o.dst (.sl b 0 ys.length c)) δ (.blk b (rowsD (ys.map rowOf) zs) :: σ)) : SL P ops (o :: rest) Q s δ σ :=
  sl_op hg fun G a w hi hr => by
    obtain ⟨⟨i, z, h1, h2, rfl, rfl, h3⟩, h4, h5⟩ := elOf_ok he
    obtain ⟨d, hd1, hd2⟩ := hu
    have r1 := hr.eval x; rw [hx] at r1
    generalize hv : a.eval x = vx at r1
    have hs' : szOf P e = some i.size := by simp [szOf, h1]
    obtain ⟨cs, hsrc, hcs⟩ := src_of_list (P := P) hi (asList_rep (hr.eval y) hy) (fun y hy => (hys y hy).1)
    cases r1 with
    | fix ad _ r1 =>
      by_cases hn : ys = []
      · subst hn
        have hz : cs.toList = [] := by
          have := hsrc.size
          simp only [List.length_nil, Nat.zero_mul] at this
          exact List.eq_nil_of_length_eq_zero (by simpa using this)
        refine ⟨.slice ad 0 0, w, G, .fix [], σ, run_call_builtin ho ?_, G.le_refl, hi, .fix ad [] r1, c0 rfl⟩
        have := run_append_in (P := P) (w := w) (w' := w) (ty := o.type) (a := ad) (n := 0) (c := 0) ht hd1 hd2 hs' hsrc (Nat.le_refl _) (fun b _ => by rw [hz]; rfl) (fun _ => rfl)
        simp only [List.length_nil, Nat.add_zero] at this
        simp only [builtin, List.map_toArray, List.map_cons, List.map_nil, Sem.run_bind, hv, List.length_nil, this, Result.andThen_ok, Sem.run_pure]
      · have hpos : 0 < ys.length := by
          cases ys with
          | nil => exact absurd rfl hn
          | cons y ys => simp
        have hold : ∀ w' : World, w'.heap = w.heap → (Builtin.firstCells i.size 0 (.slice ad 0 0)).run P w' = .ok #[] w' := fun w' _ => by
          cases ad with
          | none => exact run_firstCells_none ..
          | some b => simp [Builtin.firstCells, Nat.zero_mul, loadCells, loadCellsFrom]
        have hrun := run_append_out (ty := o.type) (n := 0) (c := 0) (a := ad) ht hd1 hd2 h1 h2 hsrc (s := .slice ad 0 0) rfl hold (by omega) (by simpa using hfit) h5
        simp only [Nat.zero_add] at hrun
        have hge : ys.length ≤ grownCap w ys.length 0 e := grownCap_ge
        generalize hcap : grownCap w ys.length 0 e = cap at hrun hge
        have hflat : (ys.flatMap V.cells).length = ys.length * i.size := (flat_get (fun y hy => (hys y hy).1)).1
        have hrows := rows_cells ys
        have hcsz := hsrc.size
        have hi1 : Inv G (.blk w.heap.size (rowsD (ys.map rowOf) (List.replicate ((cap - ys.length) * i.size) .junk)) :: σ) (w.drew.alloc (.cells (#[] ++ cs ++ Builtin.zeroCells z.cells (cap - ys.length)) e)) := by
          refine (hi.drew.alloc (cs := #[] ++ cs ++ Builtin.zeroCells z.cells (cap - ys.length)) ?_ fun k hk => ?_)
          · simp only [rowsD, hrows, Array.size_append, List.size_toArray, List.length_nil, Builtin.zeroCells, Array.size_map, Array.size_range, List.length_append, List.length_map, List.length_replicate, hflat, hcsz, h3, Nat.zero_add]
          · simp only [rowsD, hrows]
            by_cases hlt : k < (ys.flatMap V.cells).length
            · rw [List.getElem_append_left (by simpa using hlt), List.getElem_map]
              have hk2 : k < cs.size := by omega
              have := hcs k _ (List.getElem?_eq_getElem hlt)
              simp only [Array.getD_eq_getD_getElem?] at this ⊢
              rw [Array.getElem?_append_left (by simp; omega), Array.empty_append]
              exact .val _ _ this
            · rw [List.getElem_append_right (by simpa using hlt), List.getElem_replicate]; exact .junk _
        refine ⟨_, _, G, .sl w.heap.size 0 ys.length cap, _, run_call_builtin ho ?_, G.le_refl, hi1, .sl _ _ _ _, c1 w.heap.size cap _ hn hge⟩
        simp only [builtin, List.map_toArray, List.map_cons, List.map_nil, Sem.run_bind, hv, List.length_nil, hrun, Result.andThen_ok, Sem.run_pure]

/-- A cell's slice becomes immutable. -/
theorem sw_freeze_cell {code : Code} {b1 i b n c sz : Nat} {ds : List D} {ys : List V} {zs : List D} (hd : ds[i]? = some (.sl b 0 n c)) (hn : ys.length = n) (hc : n ≤ c) (hsz : ∀ y ∈ ys, y.cells.length = sz)
    (k : SW P code Q s δ (.blk b1 (ds.set i (.val (.list ys))) :: σ)) : SW P code Q s δ (.blk b1 ds :: .blk b (rowsD (ys.map rowOf) zs) :: σ) := fun G a w hi hr => by
  obtain ⟨cs, ty, fz, h, h1, h2, h3⟩ := hi.holds (.blk b (rowsD (ys.map rowOf) zs)) (List.mem_cons_of_mem _ (List.mem_cons_self ..))
  have hi0 := hi.perm (List.Perm.swap _ _ _)
  obtain ⟨hle, hi'⟩ := hi0.freeze h
  obtain ⟨hlt, hdi⟩ := List.getElem?_eq_some_iff.mp hd
  obtain ⟨cs1, ty1, fz1, g, g1, g2, g3⟩ := hi'.holds _ (List.mem_cons_self ..)
  have hv := g3 i hlt
  rw [hdi] at hv
  have hval := rep_sl hv
  have hrows := rows_cells ys
  have hflat := (flat_get hsz).1
  have hlen : cs.size = ys.length * sz + zs.length := by
    rw [h2, rowsD, List.length_append, hrows, List.length_map, hflat]
  have hlist : RepV (G.freeze b cs).C (.slice (some ⟨b, 0, none⟩) ys.length c) (.list ys) := by
    refine list_of_flat (cs := cs) hsz (by omega) (fun k hk => ?_) (fun k y hy => ?_)
    · show (if b = b then cs[0 + k]? else _) = _
      have hk' : k < cs.size := by omega
      rw [if_pos rfl, Nat.zero_add, Array.getElem?_eq_getElem hk', Array.getD_eq_getD_getElem?, Array.getElem?_eq_getElem hk']; rfl
    · obtain ⟨hk, hy⟩ := List.getElem?_eq_some_iff.mp hy
      have hk2 : k < (rowsD (ys.map rowOf) zs).length := by rw [rowsD, List.length_append, hrows, List.length_map]; omega
      have := h3 k hk2
      simp only [rowsD, hrows] at this
      rw [List.getElem_append_left (by simpa using hk), List.getElem_map, hy] at this
      rw [Nat.zero_add]
      exact (toV_rep this _ rfl).mono hle.2
  subst hn
  refine wp_mono (k _ a w (hi'.change (b := b1) rfl (fun x e => by simpa [Chunk.b?] using e.symm) (Gh.le_refl _) (fun x o v hv => .inl hv) rfl rfl rfl rfl (fun _ _ => rfl) (fun o v hv => hi'.agree _ _ _ hv) ?_ (fun x o e => hi'.apart _ (List.mem_cons_self ..) x o e)) (hr.mono hle)) fun e a w l => l.mono hle
  refine ⟨cs1, ty1, fz1, g, g1, by simpa using g2, fun k hk => ?_⟩
  have hk' : k < ds.length := by simpa using hk
  by_cases e : i = k
  · subst e
    rw [List.getElem_set_self, hval]; exact .val _ _ hlist
  · rw [List.getElem_set_ne e]; exact g3 k hk'

end rules
end Go.Proofs.Ytioechdfghglhaa.SL
