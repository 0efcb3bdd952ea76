/- The program logic, fourth part: operations on memory. -/
import Derived.Test.YtioechdfghglhaaSlC
namespace Go.Proofs.Ytioechdfghglhaa.SL
set_option linter.unusedVariables false
set_option linter.unusedSimpArgs false
open Go Go.RowKit

/-! ### What the type table says -/

def szOf (P : Program) (t : TypeId) : Option Nat := (P.info? t).map (·.size)
def zeroOf (P : Program) (t : TypeId) : Option Value := (P.info? t).bind (·.zero)

/-- Where a field lies; none: no such field, or one without a cell. -/
def fieldOff (P : Program) (t : TypeId) (i : Nat) : Option Nat :=
  match P.underlying t with
  | some (.struct fs) => match fs[i]? with
    | some f => match P.info? f.type with
      | some j => if j.size = 0 then none else some f.offset
      | none => none
    | none => none
  | _ => none

/-- Is it a struct or an array (some true), or one cell (some false)? -/
def aggOf (P : Program) (t : TypeId) : Option Bool :=
  match P.underlying t with
  | some (.struct _) | some (.array _ _) => some true
  | some _ => some false
  | none => none

theorem run_sizeOf {P : Program} {w : World} {t : TypeId} {n : Nat} (h : szOf P t = some n) : (sizeOf t).run P w = .ok n w := by
  unfold szOf at h
  obtain ⟨i, hi, rfl⟩ := Option.map_eq_some_iff.mp h
  simp [sizeOf, typeInfo, hi]

theorem run_zeroOf {P : Program} {w : World} {t : TypeId} {v : Value} (h : zeroOf P t = some v) : (zeroValue t).run P w = .ok v w := by
  unfold zeroOf at h
  obtain ⟨i, hi, hz⟩ := Option.bind_eq_some_iff.mp h
  simp [zeroValue, typeInfo, hi, hz]

theorem run_under {P : Program} {w : World} {t : TypeId} {d : TypeDesc} (h : P.underlying t = some d) : (underlying t).run P w = .ok d w := by
  simp [underlying, h]

theorem run_isAgg {P : Program} {w : World} {t : TypeId} {b : Bool} (h : aggOf P t = some b) : (isAgg t).run P w = .ok b w := by
  unfold aggOf at h
  unfold isAgg
  split at h
  · rename_i fs hu; cases h; simp [run_under hu]
  · rename_i n e hu; cases h; simp [run_under hu]
  · rename_i d hn1 hn2 hu
    cases h
    simp only [Sem.run_bind, run_under hu, Result.andThen_ok]
    cases d <;> first | rfl | exact absurd hu (hn1 _) | exact absurd hu (hn2 _ _)
  · cases h

theorem run_fieldAt {P : Program} {w : World} {t : TypeId} {i off : Nat} {b o : Nat} (h : fieldOff P t i = some off) :
    (Instr.fieldAt t (.pointer (some ⟨b, o, none⟩)) i).run P w = .ok (.pointer (some ⟨b, o + off, none⟩)) w := by
  unfold fieldOff at h
  split at h
  · rename_i fs hu
    split at h
    · rename_i f hf
      split at h
      · rename_i j hj
        split at h
        · cases h
        · rename_i hz
          simp only [Option.some.injEq] at h; subst h
          have hsz : szOf P f.type = some j.size := by simp [szOf, hj]
          unfold Instr.fieldAt
          simp only [Sem.run_bind, run_under hu, Result.andThen_ok, hf, Instr.sureAddr, Sem.run_pure, fieldPlace, run_sizeOf hsz, hz, if_false]
          unfold Addr.add
          split <;> rename_i h0
          · rw [h0]; rfl
          · rfl
      · cases h
    · cases h
  · cases h

theorem addr_add (b o k : Nat) : (⟨b, o, none⟩ : Addr).add k = ⟨b, o + k, none⟩ := by
  unfold Addr.add
  split <;> rename_i h
  · rw [h]; rfl
  · rfl

section rules
variable {P : Program} {ops : Array Oper} {Q : Post} {s : Slots} {δ : Defs} {σ : List Chunk} {o : Oper} {rest : List Oper}

/-! ### Places -/

theorem rep_rp {C : Imm} {v : Value} {xs : List V} (r : RepD C v (.rp xs)) : ∃ (b f : Nat) (vs : Nat → Value), v = .pointer (some ⟨b, f, none⟩) ∧ (∀ k, k < xs.length → C b (f + k) = some (vs k)) ∧
    ∀ k (hk : k < xs.length), RepV C (vs k) xs[k] := by
  cases r with
  | rp b o xs vs hC hv => exact ⟨b, o, vs, rfl, hC, hv⟩

theorem sl_fieldAddr_ptr {t : TypeId} {x : Operand} {i off b f : Nat} (hg : o.guard = none) (ho : o.op = .fieldAddr t x i) (hx : evalO s x = .ptr b f)
    (hf : fieldOff P t i = some off) (c : SL P ops rest Q (sput s o.dst (.ptr b (f + off))) δ σ) : SL P ops (o :: rest) Q s δ σ :=
  sl_pure hg (fun G a w hi hr => by
    have h1 := hr.eval x; rw [hx] at h1; have e1 := rep_ptr h1
    exact ⟨_, by simp only [execOp, ho, e1, Sem.run_bind, run_fieldAt hf, Result.andThen_ok, Sem.run_pure], .ptr _ _⟩) c

theorem rep_rp_drop {C : Imm} {b f : Nat} {vs : Nat → Value} {xs : List V} (n : Nat) (h2 : ∀ k, k < xs.length → C b (f + k) = some (vs k)) (h3 : ∀ k (hk : k < xs.length), RepV C (vs k) xs[k]) :
    RepD C (.pointer (some ⟨b, f + n, none⟩)) (.rp (xs.drop n)) :=
  .rp b (f + n) (xs.drop n) (fun k => vs (n + k)) (fun k hk => by
    have hk' : n + k < xs.length := by simp at hk; omega
    rw [Nat.add_assoc]; exact h2 _ hk') (fun k hk => by
    have hk' : n + k < xs.length := by simp at hk; omega
    simp only [List.getElem_drop]; exact h3 _ hk')

theorem sl_fieldAddr_rp {t : TypeId} {x : Operand} {i off : Nat} {xs : List V} (hg : o.guard = none) (ho : o.op = .fieldAddr t x i) (hx : evalO s x = .rp xs)
    (hf : fieldOff P t i = some off) (c : SL P ops rest Q (sput s o.dst (.rp (xs.drop off))) δ σ) : SL P ops (o :: rest) Q s δ σ :=
  sl_pure hg (fun G a w hi hr => by
    have h1 := hr.eval x; rw [hx] at h1; obtain ⟨b, f, vs, e1, h2, h3⟩ := rep_rp h1
    exact ⟨_, by simp only [execOp, ho, e1, Sem.run_bind, run_fieldAt hf, Result.andThen_ok, Sem.run_pure], rep_rp_drop off h2 h3⟩) c

theorem sl_fieldAddr_ref {t : TypeId} {x : Operand} {i off : Nat} {y : V} (hg : o.guard = none) (ho : o.op = .fieldAddr t x i) (hx : evalO s x = .val (.ref y))
    (hf : fieldOff P t i = some off) (c : SL P ops rest Q (sput s o.dst (.rp (y.cells.drop off))) δ σ) : SL P ops (o :: rest) Q s δ σ :=
  sl_pure hg (fun G a w hi hr => by
    have h1 := hr.eval x; rw [hx] at h1; obtain ⟨b, f, vs, e1, h2, h3⟩ := rep_rp (Weak.ref y _ _ h1)
    exact ⟨_, by simp only [execOp, ho, e1, Sem.run_bind, run_fieldAt hf, Result.andThen_ok, Sem.run_pure], rep_rp_drop off h2 h3⟩) c

/-- Not nil. -/
def D.sure : D → Bool
  | .ptr _ _ | .rp _ | .func _ _ | .val (.ref _) => true
  | _ => false

theorem sl_nilCheck {x : Operand} (hg : o.guard = none) (ho : o.op = .nilCheck x) (hx : (evalO s x).sure = true)
    (c : SL P ops rest Q (sput s o.dst (evalO s x)) δ σ) : SL P ops (o :: rest) Q s δ σ :=
  sl_pure hg (fun G a w hi hr => by
    have h1 := hr.eval x
    refine ⟨a.eval x, ?_, h1⟩
    generalize evalO s x = d at h1 hx
    generalize hv : a.eval x = v at h1
    cases h1 with
    | ptr b f => simp [execOp, ho, hv]
    | rp b f xs vs _ _ => simp [execOp, ho, hv]
    | func f vs ds _ _ => simp [execOp, ho, hv]
    | val _ y h => cases h <;> first | (simp [D.sure] at hx; done) | simp [execOp, ho, hv]
    | _ => simp [D.sure] at hx) c

/-! ### A place in a list -/

theorem sl_indexAddr {t e : TypeId} {x i : Operand} {k : IntKind} {n : Int} {xs : List V} (hg : o.guard = none) (ho : o.op = .indexAddr t x i)
    (hx : evalO s x = .val (.list xs)) (hn : evalO s i = .val (.int k n)) (ht : P.underlying t = some (.slice e)) (hs : (szOf P e).isSome = true)
    (h0 : 0 ≤ n) (hlt : n.toNat < xs.length) (hsz : ∀ sz, szOf P e = some sz → (xs[n.toNat]).cells.length = sz)
    (c : SL P ops rest Q (sput s o.dst (.rp (xs[n.toNat]).cells)) δ σ) : SL P ops (o :: rest) Q s δ σ :=
  sl_pure hg (fun G a w hi hr => by
    have h1 := hr.eval x; rw [hx] at h1
    have h2 := hr.eval i; rw [hn] at h2; have e2 := rep_int h2
    obtain ⟨sz, hsz'⟩ := Option.isSome_iff_exists.mp hs
    have hc := hsz sz hsz'
    generalize hv : a.eval x = v at h1
    cases h1 with
    | val _ _ h =>
      cases h with
      | empty => simp at hlt
      | list b f cp sz' xs vs h1 h3 h4 h5 =>
        have hz : sz' = sz := by rw [← h3 _ hlt, hc]
        subst hz
        refine ⟨.pointer (some ⟨b, f + n.toNat * sz', none⟩), ?_, .rp _ _ _ (vs n.toNat) (fun k hk => ?_) (fun k hk => h5 _ _ hlt hk)⟩
        · have hin : 0 ≤ n ∧ n < (xs.length : Int) := ⟨h0, by omega⟩
          simp only [execOp, ho, hv, e2, Instr.indexAt, asIntOf, Sem.run_bind, Sem.run_pure, Result.andThen_ok, run_under ht, hin, and_self, if_true, run_sizeOf hsz', addr_add]
        · exact h4 _ _ hlt (by rw [← h3 _ hlt]; exact hk)) c

theorem sl_index_str {t : TypeId} {x i : Operand} {k : IntKind} {n : Int} {l : List UInt8} (hg : o.guard = none) (ho : o.op = .index t x i)
    (hx : evalO s x = .val (.str l)) (hn : evalO s i = .val (.int k n)) (ht : P.underlying t = some .string) (h0 : 0 ≤ n) (hlt : n.toNat < l.length)
    (c : SL P ops rest Q (sput s o.dst (.val (.int .u8 ((l[n.toNat]).toNat : Int)))) δ σ) : SL P ops (o :: rest) Q s δ σ :=
  sl_pure hg (fun G a w hi hr => by
    have h1 := hr.eval x; rw [hx] at h1; obtain ⟨t1, e1, rfl⟩ := rep_str h1
    have h2 := hr.eval i; rw [hn] at h2; have e2 := rep_int h2
    refine ⟨_, ?_, rep_bin (.int _ _)⟩
    have hsz : n.toNat < t1.size := by simp only [Array.length_toList] at hlt; exact hlt
    have hget : t1[n.toNat]? = some (t1.data.toList[n.toNat]) := by
      rw [getElem?_pos t1 n.toNat hsz]; rfl
    simp only [execOp, ho, e1, e2, Instr.index, asIntOf, Sem.run_bind, Sem.run_pure, Result.andThen_ok, run_under ht, h0, if_true, hget]) c

/-! ### Loads -/

theorem run_load_one {P : Program} {w : World} {t : TypeId} {b f : Nat} {v : Value} (ht : aggOf P t = some false) (h : w.cell? ⟨b, f, none⟩ = some v) :
    (Instr.loadAt t (.pointer (some ⟨b, f, none⟩))).run P w = .ok v w := by
  simp only [Instr.loadAt, Instr.sureAddr, loadVar, Sem.run_bind, Sem.run_pure, Result.andThen_ok, run_isAgg ht, Bool.false_eq_true, if_false, run_load, h]

theorem run_load_agg {P : Program} {w : World} {t : TypeId} {b f n : Nat} {vs : Nat → Value} (ht : aggOf P t = some true) (hn : szOf P t = some n)
    (h : ∀ k, k < n → w.cell? ⟨b, f + k, none⟩ = some (vs k)) :
    (Instr.loadAt t (.pointer (some ⟨b, f, none⟩))).run P w = .ok (.agg ((List.range n).map vs).toArray) w := by
  simp only [Instr.loadAt, Instr.sureAddr, loadVar, Sem.run_bind, Sem.run_pure, Result.andThen_ok, run_isAgg ht, if_true, run_sizeOf hn]
  rw [run_loadCells w _ n vs (fun j hj => by rw [addr_add]; exact h j hj)]
  rfl

theorem run_op_load {ρ : Operand → Value} {t : TypeId} {x : Operand} (ho : o.op = .load t x) {w : World} {v : Value} (h : (Instr.loadAt t (ρ x)).run P w = .ok v w) :
    (execOp ρ o).run P w = .ok (.value v) w := by
  simp only [execOp, ho, Sem.run_bind, h, Result.andThen_ok, Sem.run_pure]

theorem range_getD (n k : Nat) (vs : Nat → Value) (h : k < n) : (((List.range n).map vs).toArray).getD k undef = vs k := by
  simp [h]

/-- From immutable memory, one cell. -/
theorem sl_load_rp1 {t : TypeId} {x : Operand} {xs : List V} {y : V} (hg : o.guard = none) (ho : o.op = .load t x) (hx : evalO s x = .rp xs)
    (ht : aggOf P t = some false) (hy : xs[0]? = some y) (c : SL P ops rest Q (sput s o.dst (.val y)) δ σ) : SL P ops (o :: rest) Q s δ σ :=
  sl_pure hg (fun G a w hi hr => by
    have h1 := hr.eval x; rw [hx] at h1; obtain ⟨b, f, vs, e1, h2, h3⟩ := rep_rp h1
    obtain ⟨h0, rfl⟩ := List.getElem?_eq_some_iff.mp hy
    exact ⟨vs 0, run_op_load ho (by rw [e1]; exact run_load_one ht (hi.agree _ _ _ (h2 0 h0))), .val _ _ (h3 0 h0)⟩) c

theorem sl_load_rpn {t : TypeId} {x : Operand} {xs : List V} {n : Nat} (hg : o.guard = none) (ho : o.op = .load t x) (hx : evalO s x = .rp xs)
    (ht : aggOf P t = some true) (hn : szOf P t = some n) (hle : n ≤ xs.length) (c : SL P ops rest Q (sput s o.dst (.val (.agg (xs.take n)))) δ σ) : SL P ops (o :: rest) Q s δ σ :=
  sl_pure hg (fun G a w hi hr => by
    have h1 := hr.eval x; rw [hx] at h1; obtain ⟨b, f, vs, e1, h2, h3⟩ := rep_rp h1
    refine ⟨_, run_op_load ho (by rw [e1]; exact run_load_agg ht hn (fun k hk => hi.agree _ _ _ (h2 k (by omega)))), .val _ _ (.agg _ _ (by simp; omega) (fun k hk => ?_))⟩
    have hk' : k < n := by simp at hk; omega
    rw [range_getD n k vs hk', List.getElem_take]
    exact h3 k (by omega)) c

theorem sl_load_ref {t : TypeId} {x : Operand} {y : V} {n : Nat} (hg : o.guard = none) (ho : o.op = .load t x) (hx : evalO s x = .val (.ref y))
    (ht : aggOf P t = some true) (hn : szOf P t = some n) (hle : n ≤ y.cells.length) (c : SL P ops rest Q (sput s o.dst (.val (.agg (y.cells.take n)))) δ σ) : SL P ops (o :: rest) Q s δ σ :=
  sl_pure hg (fun G a w hi hr => by
    have h1 := hr.eval x; rw [hx] at h1; obtain ⟨b, f, vs, e1, h2, h3⟩ := rep_rp (Weak.ref y _ _ h1)
    refine ⟨_, run_op_load ho (by rw [e1]; exact run_load_agg ht hn (fun k hk => hi.agree _ _ _ (h2 k (by omega)))), .val _ _ (.agg _ _ (by simp; omega) (fun k hk => ?_))⟩
    have hk' : k < n := by simp at hk; omega
    rw [range_getD n k vs hk', List.getElem_take]
    exact h3 k (by omega)) c

theorem cell_of_blk {G : Gh} {w : World} {b : Nat} {ds : List D} (hi : Inv G σ w) (hm : (.blk b ds) ∈ σ) : ∃ vs : Nat → Value, (∀ k, k < ds.length → w.cell? ⟨b, k, none⟩ = some (vs k)) ∧
    ∀ k (hk : k < ds.length), RepD G.C (vs k) ds[k] := by
  obtain ⟨cs, ty, fz, h, h1, h2, h3⟩ := hi.holds _ hm
  refine ⟨fun k => cs.getD k undef, fun k hk => ?_, h3⟩
  have hk' : k < cs.size := by omega
  simp only [World.cell?, h, Array.getD_eq_getD_getElem?, Array.getElem?_eq_getElem hk', Option.getD_some]
  rfl

/-- From an owned block, one cell. -/
theorem sl_load_blk1 {t : TypeId} {x : Operand} {b f : Nat} {ds : List D} {d : D} (hg : o.guard = none) (ho : o.op = .load t x) (hx : evalO s x = .ptr b f)
    (ht : aggOf P t = some false) (hm : (.blk b ds) ∈ σ) (hd : ds[f]? = some d) (c : SL P ops rest Q (sput s o.dst d) δ σ) : SL P ops (o :: rest) Q s δ σ :=
  sl_pure hg (fun G a w hi hr => by
    have h1 := hr.eval x; rw [hx] at h1; have e1 := rep_ptr h1
    obtain ⟨h0, rfl⟩ := List.getElem?_eq_some_iff.mp hd
    obtain ⟨vs, h2, h3⟩ := cell_of_blk hi hm
    exact ⟨vs f, run_op_load ho (by rw [e1]; exact run_load_one ht (h2 f h0)), h3 f h0⟩) c

theorem sl_load_blkn {t : TypeId} {x : Operand} {b f n : Nat} {ds : List D} (hg : o.guard = none) (ho : o.op = .load t x) (hx : evalO s x = .ptr b f)
    (ht : aggOf P t = some true) (hn : szOf P t = some n) (hm : (.blk b ds) ∈ σ) (hle : f + n ≤ ds.length) (c : SL P ops rest Q (sput s o.dst (.agg ((ds.drop f).take n))) δ σ) :
    SL P ops (o :: rest) Q s δ σ :=
  sl_pure hg (fun G a w hi hr => by
    have h1 := hr.eval x; rw [hx] at h1; have e1 := rep_ptr h1
    obtain ⟨vs, h2, h3⟩ := cell_of_blk hi hm
    refine ⟨_, run_op_load ho (by rw [e1]; exact run_load_agg ht hn (vs := fun k => vs (f + k)) (fun k hk => h2 _ (by omega))), .agg _ _ (by simp; omega) (fun k hk => ?_)⟩
    have hk' : k < n := by simp at hk; omega
    rw [range_getD n k _ hk', List.getElem_take, List.getElem_drop]
    exact h3 _ (by omega)) c

end rules
end Go.Proofs.Ytioechdfghglhaa.SL
