/- The program logic, fourteenth part: structs held against one another. -/
import Derived.Test.YtioechdfghglhaaSlM
import Derived.Laws.StructEq
namespace Go.Proofs.Ytioechdfghglhaa.SL
set_option linter.unusedVariables false
set_option linter.unusedSimpArgs false
open Go Go.RowKit

/-- What a cell of a struct that may be held against another is. -/
inductive EK where
  | bool
  | int (k : IntKind)
  | str

def eqFs (P : Program) (g : TypeId → Option (List EK)) : List Field → Nat → Option (List EK)
  | [], _ => some []
  | f :: fs, off =>
    if f.name ≠ "_" ∧ f.offset = off then
      match g f.type, szOf P f.type with
      | some ks, some n => if ks.length = n then (eqFs P g fs (off + n)).map (ks ++ ·) else none
      | _, _ => none
    else none

/-- The cells of a type whose values are held against one another cell by cell. -/
def eqKs (P : Program) : Nat → TypeId → Option (List EK)
  | 0, _ => none
  | n + 1, t =>
    match P.underlying t with
    | some .bool => some [.bool]
    | some (.int k) => some [.int k]
    | some .string => some [.str]
    | some (.struct fs) => if P.stoodInHeld t then none else eqFs P (eqKs P n) fs.toList 0
    | _ => none

def ikEq : IntKind → IntKind → Bool
  | .i8, .i8 | .i16, .i16 | .i32, .i32 | .i64, .i64 | .u8, .u8 | .u16, .u16 | .u32, .u32 | .u64, .u64 => true
  | _, _ => false

theorem ikEq_eq {a b : IntKind} (h : ikEq a b = true) : a = b := by cases a <;> cases b <;> first | rfl | simp [ikEq] at h

def oneK : EK → V → V → Option Bool
  | .bool, .bool a, .bool b => some (a == b)
  | .int _, .int k a, .int k' b => cond (ikEq k k') (some (a == b)) none
  | .str, .str a, .str b => some (a == b)
  | _, _, _ => none

def cmpK : List EK → List V → List V → Option Bool
  | [], [], [] => some true
  | e :: ks, x :: xs, y :: ys =>
    match oneK e x y, cmpK ks xs ys with
    | some b, some r => some (b && r)
    | _, _ => none
  | _, _, _ => none

theorem cmpK_cons {e : EK} {ks : List EK} {xs ys : List V} {r : Bool} (h : cmpK (e :: ks) xs ys = some r) :
    ∃ x y xs' ys' b r', xs = x :: xs' ∧ ys = y :: ys' ∧ oneK e x y = some b ∧ cmpK ks xs' ys' = some r' ∧ r = (b && r') := by
  cases xs with
  | nil => simp [cmpK] at h
  | cons x xs =>
    cases ys with
    | nil => simp [cmpK] at h
    | cons y ys =>
      simp only [cmpK] at h
      split at h
      · rename_i b r' h1 h2
        simp only [Option.some.injEq] at h
        exact ⟨x, y, xs, ys, b, r', rfl, rfl, h1, h2, h.symm⟩
      · cases h

/-- The cells of a value of this type. -/
def EqRep (C : Imm) (P : Program) (t : TypeId) (v : Value) (xs : List V) : Prop :=
  ∃ cs : Array Value, cs.size = xs.length ∧ (∀ k (hk : k < xs.length), RepV C (cs.getD k undef) xs[k]) ∧ (aggOf P t = some true ∧ v = .agg cs ∨ aggOf P t = some false ∧ cs = #[v])

theorem cmpK_len : ∀ {ks : List EK} {xs ys : List V} {r : Bool}, cmpK ks xs ys = some r → xs.length = ks.length ∧ ys.length = ks.length
  | [], xs, ys, r, h => by
    cases xs <;> cases ys <;> first | exact ⟨rfl, rfl⟩ | (simp [cmpK] at h)
  | e :: ks, xs, ys, r, h => by
    obtain ⟨x, y, xs', ys', b, r', rfl, rfl, h1, h2, rfl⟩ := cmpK_cons h
    have := cmpK_len h2
    simp [this]

theorem cmpK_append : ∀ {ks ks2 : List EK} {xs ys : List V} {r : Bool}, cmpK (ks ++ ks2) xs ys = some r →
    ∃ r1 r2, r = (r1 && r2) ∧ cmpK ks (xs.take ks.length) (ys.take ks.length) = some r1 ∧ cmpK ks2 (xs.drop ks.length) (ys.drop ks.length) = some r2
  | [], ks2, xs, ys, r, h => ⟨true, r, by simp, by simp [cmpK], by simpa using h⟩
  | e :: ks, ks2, xs, ys, r, h => by
    rw [List.cons_append] at h
    obtain ⟨x, y, xs', ys', b, r', rfl, rfl, h1, h2, rfl⟩ := cmpK_cons h
    obtain ⟨r1, r2, rfl, h3, h4⟩ := cmpK_append h2
    refine ⟨b && r1, r2, (Bool.and_assoc _ _ _).symm, ?_, by simpa using h4⟩
    simp only [List.length_cons, List.take_succ_cons, cmpK, h1, h3]

theorem run_part {P : Program} {C : Imm} {w : World} {t : TypeId} {n off : Nat} {cs : Array Value} {xs : List V} {b : Bool} (ha : aggOf P t = some b) (hs : szOf P t = some n) (hn : n = xs.length) (h1 : b = false → n = 1)
    (hle : off + n ≤ cs.size) (hr : ∀ k (hk : k < xs.length), RepV C (cs.getD (off + k) undef) xs[k]) : ∃ v, (part t cs off).run P w = .ok v w ∧ EqRep C P t v xs := by
  cases b with
  | true =>
    refine ⟨.agg (cs.extract off (off + n)), ?_, cs.extract off (off + n), by simp; omega, fun k hk => ?_, .inl ⟨ha, rfl⟩⟩
    · simp only [part, Sem.run_bind, run_isAgg ha, Result.andThen_ok, if_true, run_sizeOf hs, Sem.run_pure]
    · have h2 : k < (cs.extract off (off + n)).size := by simp; omega
      have h3 : off + k < cs.size := by omega
      have := hr k hk
      simp only [Array.getD_eq_getD_getElem?, Array.getElem?_eq_getElem h3, Option.getD_some] at this
      simpa only [Array.getD_eq_getD_getElem?, Array.getElem?_eq_getElem h2, Option.getD_some, Array.getElem_extract] using this
  | false =>
    have := h1 rfl
    have h3 : off < cs.size := by omega
    refine ⟨cs[off], ?_, #[cs[off]], by simp; omega, fun k hk => ?_, .inr ⟨ha, rfl⟩⟩
    · simp only [part, Sem.run_bind, run_isAgg ha, Result.andThen_ok, Bool.false_eq_true, if_false, Array.getElem?_eq_getElem h3, Sem.run_pure]
    · have h0 : k = 0 := by omega
      subst h0
      have := hr 0 hk
      exact (by simpa only [Nat.add_zero, Array.getD_eq_getD_getElem?, Array.getElem?_eq_getElem h3, Option.getD_some] using this : RepV C cs[off] xs[0])

theorem run_eqFs {P : Program} {C : Imm} {g : TypeId → Option (List EK)} {d : Nat} (hg1 : ∀ t ks, g t = some ks → ∃ b, aggOf P t = some b ∧ (b = false → ks.length = 1))
    (hg : ∀ t ks, g t = some ks → ∀ v u xs ys r, EqRep C P t v xs → EqRep C P t u ys → cmpK ks xs ys = some r → ∀ w, (Op.equalIn d t v u).run P w = .ok r w) :
    ∀ (fs : List Field) (off : Nat) (ks : List EK), eqFs P g fs off = some ks → ∀ (cs ds : Array Value) (xs ys : List V) (r : Bool), cs.size = off + xs.length → ds.size = off + ys.length →
      (∀ k (hk : k < xs.length), RepV C (cs.getD (off + k) undef) xs[k]) → (∀ k (hk : k < ys.length), RepV C (ds.getD (off + k) undef) ys[k]) → cmpK ks xs ys = some r → ∀ w, (Op.eqFields d cs ds fs).run P w = .ok r w
  | [], off, ks, h, cs, ds, xs, ys, r, h1, h2, h3, h4, h5, w => by
    simp only [eqFs, Option.some.injEq] at h; subst h
    obtain ⟨l1, l2⟩ := cmpK_len h5
    have e1 : xs = [] := List.eq_nil_of_length_eq_zero l1
    have e2 : ys = [] := List.eq_nil_of_length_eq_zero l2
    subst e1; subst e2
    simp only [cmpK, Option.some.injEq] at h5; subst h5
    simp [Op.eqFields]
  | f :: fs, off, ks, h, cs, ds, xs, ys, r, h1, h2, h3, h4, h5, w => by
    unfold eqFs at h
    split at h
    · rename_i hc
      obtain ⟨hc1, hc2⟩ := hc
      split at h
      · rename_i ks1 n hk1 hn
        split at h
        · rename_i hl
          obtain ⟨ks2, hks2, rfl⟩ := Option.map_eq_some_iff.mp h
          obtain ⟨r1, r2, rfl, c1, c2⟩ := cmpK_append h5
          obtain ⟨l1, l2⟩ := cmpK_len h5
          simp only [List.length_append] at l1 l2
          obtain ⟨b, ha, hb⟩ := hg1 _ _ hk1
          have t1 : (xs.take ks1.length).length = n := by simp; omega
          have t2 : (ys.take ks1.length).length = n := by simp; omega
          obtain ⟨v, p1, e1⟩ := run_part (C := C) (w := w) (off := off) (cs := cs) (xs := xs.take ks1.length) ha hn t1.symm (fun e => by have := hb e; omega) (by omega)
            (fun k hk => by rw [List.getElem_take]; exact h3 k (by omega))
          obtain ⟨u, p2, e2⟩ := run_part (C := C) (w := w) (off := off) (cs := ds) (xs := ys.take ks1.length) ha hn t2.symm (fun e => by have := hb e; omega) (by omega)
            (fun k hk => by rw [List.getElem_take]; exact h4 k (by omega))
          have q := hg _ _ hk1 v u _ _ r1 e1 e2 c1 w
          have ih := run_eqFs hg1 hg fs (off + n) ks2 hks2 cs ds (xs.drop ks1.length) (ys.drop ks1.length) r2 (by simp; omega) (by simp; omega)
            (fun k hk => by
              have := h3 (n + k) (by simp at hk; omega)
              rw [← Nat.add_assoc] at this
              simp only [List.getElem_drop, hl]; exact this)
            (fun k hk => by
              have := h4 (n + k) (by simp at hk; omega)
              rw [← Nat.add_assoc] at this
              simp only [List.getElem_drop, hl]; exact this) c2 w
          unfold Op.eqFields
          rw [if_pos hc1, hc2]
          simp only [Sem.run_bind, p1, p2, q, Result.andThen_ok]
          cases r1
          · simp
          · simpa using ih
        · cases h
      · cases h
    · cases h

theorem eqKs_agg {P : Program} : ∀ n t ks, eqKs P n t = some ks → ∃ b, aggOf P t = some b ∧ (b = false → ks.length = 1)
  | 0, t, ks, h => by simp [eqKs] at h
  | n + 1, t, ks, h => by
    unfold eqKs at h
    split at h
    · rename_i e; cases h; exact ⟨false, by simp [aggOf, e], fun _ => rfl⟩
    · rename_i e; cases h; exact ⟨false, by simp [aggOf, e], fun _ => rfl⟩
    · rename_i e; cases h; exact ⟨false, by simp [aggOf, e], fun _ => rfl⟩
    · rename_i e; exact ⟨true, by simp [aggOf, e], fun h => by cases h⟩
    · cases h

theorem eqRep_one {C : Imm} {P : Program} {t : TypeId} {v : Value} {x : V} (h : EqRep C P t v [x]) (ha : aggOf P t = some false) : RepV C v x := by
  obtain ⟨cs, h1, h2, h3⟩ := h
  rcases h3 with h3 | h3
  · rw [ha] at h3; cases h3.1
  · obtain ⟨_, rfl⟩ := h3
    exact h2 0 (by simp)

theorem cmpK_one {e : EK} {xs ys : List V} {r : Bool} (h : cmpK [e] xs ys = some r) : ∃ x y, xs = [x] ∧ ys = [y] ∧ oneK e x y = some r := by
  obtain ⟨x, y, xs', ys', b, r', rfl, rfl, h1, h2, rfl⟩ := cmpK_cons h
  obtain ⟨l1, l2⟩ := cmpK_len h2
  have e1 := List.eq_nil_of_length_eq_zero l1
  have e2 := List.eq_nil_of_length_eq_zero l2
  subst e1; subst e2
  simp only [cmpK, Option.some.injEq] at h2
  subst h2
  exact ⟨x, y, rfl, rfl, by rw [Bool.and_true]; exact h1⟩

theorem oneK_bool {x y : V} {r : Bool} (h : oneK .bool x y = some r) : ∃ a b, x = .bool a ∧ y = .bool b ∧ r = (a == b) := by
  cases x <;> cases y <;> simp only [oneK, reduceCtorEq, Option.some.injEq] at h
  exact ⟨_, _, rfl, rfl, h.symm⟩
theorem oneK_str {x y : V} {r : Bool} (h : oneK .str x y = some r) : ∃ a b, x = .str a ∧ y = .str b ∧ r = (a == b) := by
  cases x <;> cases y <;> simp only [oneK, reduceCtorEq, Option.some.injEq] at h
  exact ⟨_, _, rfl, rfl, h.symm⟩
theorem oneK_int {k0 : IntKind} {x y : V} {r : Bool} (h : oneK (.int k0) x y = some r) : ∃ k a b, x = .int k a ∧ y = .int k b ∧ r = (a == b) := by
  cases x <;> cases y <;> simp only [oneK, reduceCtorEq] at h
  rename_i k a k' b
  cases hk : ikEq k k' <;> rw [hk] at h
  · cases h
  · have hkk := ikEq_eq hk
    subst hkk
    simp only [cond_true, Option.some.injEq] at h
    exact ⟨k, a, b, rfl, rfl, h.symm⟩

theorem run_eqKs {P : Program} {C : Imm} : ∀ n t ks, eqKs P n t = some ks → ∀ d, n ≤ d → ∀ v u xs ys r, EqRep C P t v xs → EqRep C P t u ys → cmpK ks xs ys = some r → ∀ w, (Op.equalIn d t v u).run P w = .ok r w
  | 0, t, ks, h, _, _, _, _, _, _, _, _, _, _, _ => by simp [eqKs] at h
  | n + 1, t, ks, h, d, hd, v, u, xs, ys, r, hv, hu, hr, w => by
    obtain ⟨d, rfl⟩ : ∃ d', d = d' + 1 := ⟨d - 1, by omega⟩
    unfold eqKs at h
    split at h
    · rename_i e; cases h
      have ha : aggOf P t = some false := by simp [aggOf, e]
      obtain ⟨x, y, rfl, rfl, h1⟩ := cmpK_one hr
      have r1 := eqRep_one hv ha
      have r2 := eqRep_one hu ha
      obtain ⟨a, b, rfl, rfl, rfl⟩ := oneK_bool h1
      cases r1; cases r2
      exact run_equalIn_bool w d t _ _ e
    · rename_i k0 e; cases h
      have ha : aggOf P t = some false := by simp [aggOf, e]
      obtain ⟨x, y, rfl, rfl, h1⟩ := cmpK_one hr
      have r1 := eqRep_one hv ha
      have r2 := eqRep_one hu ha
      obtain ⟨k, a, b, rfl, rfl, rfl⟩ := oneK_int h1
      cases r1; cases r2
      exact run_equalIn_int w d t _ _ _ _ e
    · rename_i e; cases h
      have ha : aggOf P t = some false := by simp [aggOf, e]
      obtain ⟨x, y, rfl, rfl, h1⟩ := cmpK_one hr
      have r1 := eqRep_one hv ha
      have r2 := eqRep_one hu ha
      obtain ⟨a, b, rfl, rfl, rfl⟩ := oneK_str h1
      cases r1; cases r2
      rw [run_equalIn_string w d t _ _ e, toList_data, toList_data]
    · rename_i fs e
      have ha : aggOf P t = some true := by simp [aggOf, e]
      split at h
      · cases h
      · rename_i hs
        have hf : P.fieldsOf t = fs := by simp [Program.fieldsOf, e]
        obtain ⟨cs, a1, a2, a3⟩ := hv
        obtain ⟨ds, b1, b2, b3⟩ := hu
        rcases a3 with ⟨_, rfl⟩ | ⟨a3, _⟩
        · rcases b3 with ⟨_, rfl⟩ | ⟨b3, _⟩
          · rw [run_equalIn_agg w d t cs ds (by rw [hf]; exact e) (by simpa using hs), hf]
            exact run_eqFs (C := C) (g := eqKs P n) (eqKs_agg n) (fun t ks h v u xs ys r h1 h2 h3 w => run_eqKs n t ks h d (by omega) v u xs ys r h1 h2 h3 w) fs.toList 0 ks h cs ds xs ys r (by omega) (by omega)
              (fun k hk => by rw [Nat.zero_add]; exact a2 k hk) (fun k hk => by rw [Nat.zero_add]; exact b2 k hk) hr w
          · rw [ha] at b3; cases b3
        · rw [ha] at a3; cases a3
    · cases h

theorem eqRep_agg {C : Imm} {P : Program} {t : TypeId} {v : Value} {xs : List V} (h : RepV C v (.agg xs)) (ha : aggOf P t = some true) : ∃ cs, v = .agg cs ∧ EqRep C P t v xs := by
  cases h with
  | agg cs xs h1 h2 => exact ⟨cs, rfl, cs, h1, h2, .inl ⟨ha, rfl⟩⟩

section rules
variable {P : Program} {ops : Array Oper} {Q : Post} {s : Slots} {δ : Defs} {σ : List Chunk} {K : Exacts} {o : Oper} {rest : List Oper}

theorem run_structEq {op : BinOp} {t : TypeId} {x y : Operand} {v u : Value} {C : Imm} {xs ys : List V} {ks : List EK} {r : Bool} (hv : RepV C v (.agg xs)) (hu : RepV C u (.agg ys)) (ha : aggOf P t = some true) (hm : P.eqGuardType P.depth t = false)
    (hk : eqKs P 9 t = some ks) (hr : cmpK ks xs ys = some r) (hop : op = .eql ∨ op = .neq) (w : World) :
    (eqGuard op t x y v u).run P w = .ok () w ∧ (binOp op t v u).run P w = .ok (.bool (if op = .eql then r else !r)) w := by
  obtain ⟨cs, rfl, e1⟩ := eqRep_agg hv ha
  obtain ⟨ds, rfl, e2⟩ := eqRep_agg hu ha
  refine ⟨run_eqGuard_agg w op t x y cs ds hm, ?_⟩
  have := run_eqKs 9 t ks hk 10000 (by omega) _ _ _ _ r e1 e2 hr w
  rcases hop with rfl | rfl
  · rw [run_eql_struct, this]; rfl
  · rw [run_neq_struct, this]; rfl

theorem sl_struct_eq {t t' : TypeId} {x y : Operand} {xs ys : List V} {ks : List EK} {r : Bool} (hg : o.guard = none) (ho : o.op = .binOp .eql t x y t') (hx : toV (evalO s x) = some (.agg xs)) (hy : toV (evalO s y) = some (.agg ys))
    (ha : aggOf P t = some true) (hm : P.eqGuardType P.depth t = false) (hk : eqKs P 9 t = some ks) (hr : cmpK ks xs ys = some r)
    (c : SL P ops rest Q (sput s o.dst (.val (.bool r))) δ σ) : SL P ops (o :: rest) Q s δ σ :=
  sl_pure hg (fun G a w hi hrel => by
    obtain ⟨h1, h2⟩ := run_structEq (op := .eql) (x := x) (y := y) (toV_rep (hrel.eval x) _ hx) (toV_rep (hrel.eval y) _ hy) ha hm hk hr (.inl rfl) w
    exact ⟨_, run_execBin ho h1 h2, rep_bin (.bool _)⟩) c

theorem sl_struct_ne {t t' : TypeId} {x y : Operand} {xs ys : List V} {ks : List EK} {r : Bool} (hg : o.guard = none) (ho : o.op = .binOp .neq t x y t') (hx : toV (evalO s x) = some (.agg xs)) (hy : toV (evalO s y) = some (.agg ys))
    (ha : aggOf P t = some true) (hm : P.eqGuardType P.depth t = false) (hk : eqKs P 9 t = some ks) (hr : cmpK ks xs ys = some r)
    (c : SL P ops rest Q (sput s o.dst (.val (.bool (!r)))) δ σ) : SL P ops (o :: rest) Q s δ σ :=
  sl_pure hg (fun G a w hi hrel => by
    obtain ⟨h1, h2⟩ := run_structEq (op := .neq) (x := x) (y := y) (toV_rep (hrel.eval x) _ hx) (toV_rep (hrel.eval y) _ hy) ha hm hk hr (.inr rfl) w
    exact ⟨_, run_execBin ho h1 h2, rep_bin (.bool _)⟩) c

theorem pu_struct_eq {t t' : TypeId} {x y : Operand} {xs ys : List V} {ks : List EK} {r : Bool} (ho : o.op = .binOp .eql t x y t') (hx : toV (evalO s x) = some (.agg xs)) (hy : toV (evalO s y) = some (.agg ys))
    (ha : aggOf P t = some true) (hm : P.eqGuardType P.depth t = false) (hk : eqKs P 9 t = some ks) (hr : cmpK ks xs ys = some r) : PureOp P K s δ o (.val (.bool r)) := fun G a hrel =>
  ⟨_, rep_bin (.bool _), fun w _ => by
    obtain ⟨h1, h2⟩ := run_structEq (op := .eql) (x := x) (y := y) (toV_rep (hrel.eval x) _ hx) (toV_rep (hrel.eval y) _ hy) ha hm hk hr (.inl rfl) w
    exact run_execBin ho h1 h2⟩

theorem pu_struct_ne {t t' : TypeId} {x y : Operand} {xs ys : List V} {ks : List EK} {r : Bool} (ho : o.op = .binOp .neq t x y t') (hx : toV (evalO s x) = some (.agg xs)) (hy : toV (evalO s y) = some (.agg ys))
    (ha : aggOf P t = some true) (hm : P.eqGuardType P.depth t = false) (hk : eqKs P 9 t = some ks) (hr : cmpK ks xs ys = some r) : PureOp P K s δ o (.val (.bool (!r))) := fun G a hrel =>
  ⟨_, rep_bin (.bool _), fun w _ => by
    obtain ⟨h1, h2⟩ := run_structEq (op := .neq) (x := x) (y := y) (toV_rep (hrel.eval x) _ hx) (toV_rep (hrel.eval y) _ hy) ha hm hk hr (.inr rfl) w
    exact run_execBin ho h1 h2⟩

/-- A list without room gets an owner, in a region that draws its order. -/
theorem sa_own {fuel : Nat} {listed : Array Bool} {t : Nat} {sz : Nat} {xs : List V} (hs : evalO s (.tmp t) = .fix xs)
    (k : ∀ v, SA P ops fuel listed Q (sput s (some t) (.own v xs)) δ (.spare v sz :: σ) K) : SA P ops fuel listed Q s δ σ K := fun G a w hi hr => by
  have hv := hr.eval (.tmp t)
  rw [hs] at hv
  generalize hval : a.eval (.tmp t) = v at hv
  cases hv with
  | fix ad xs h =>
    refine k (.slice ad xs.length xs.length) G a w (hi.add ⟨ad, xs.length, xs.length, rfl, .inl rfl⟩ (fun b e => ?_) (fun b o e => ?_) (fun b e => ?_)) ?_
    · cases ad <;> simp [Chunk.b?] at e
    · cases ad <;> simp [Chunk.owns] at e
    · cases ad <;> simp [Chunk.b?] at e
    · have hlt : t < s.n := by
        by_cases h : t < s.n
        · exact h
        · rw [evalO_ge h] at hs; cases hs
      refine ⟨hr.size, fun k hk => ?_, hr.defs, hr.defd⟩
      rw [get_put]
      have hk : k < s.n := hk
      split
      · rename_i e; subst e
        have hval : a.tmps.getD t undef = _ := hval
        rw [hval]; exact .own _ _ h
      · exact hr.slot k hk

end rules
end Go.Proofs.Ytioechdfghglhaa.SL
