/- The program logic, thirteenth part: how a statement's arguments are handed to a contract. -/
import Derived.Test.YtioechdfghglhaaSlL
namespace Go.Proofs.Ytioechdfghglhaa.SL
set_option linter.unusedVariables false
set_option linter.unusedSimpArgs false
open Go Go.RowKit

theorem wf_range {k : IntKind} {n : Int} (h : (Lit.int k n).wf = true) : k.min ≤ n ∧ n ≤ k.max := by
  simpa [Lit.wf] using h

theorem wf_i64 {n : Int} (h : (Lit.int .i64 n).wf = true) : -9223372036854775808 ≤ n ∧ n ≤ 9223372036854775807 := wf_range h

theorem wf_u64 {n : Int} (h : (Lit.int .u64 n).wf = true) : 0 ≤ n ∧ n ≤ 18446744073709551615 := wf_range h

theorem wf_u8 {n : Int} (h : (Lit.int .u8 n).wf = true) : 0 ≤ n ∧ n ≤ 255 := wf_range h

inductive RL (C : Imm) : List Value → List D → Prop
  | nil : RL C [] []
  | cons {v : Value} {d : D} {vs : List Value} {ds : List D} (h : RepD C v d) (hs : RL C vs ds) : RL C (v :: vs) (d :: ds)

theorem RL.all {C : Imm} {vs : List Value} {ds : List D} (h : RL C vs ds) : vs.length = ds.length ∧ ∀ k (hk : k < ds.length), RepD C (vs.getD k undef) ds[k] := by
  induction h with
  | nil => exact ⟨rfl, fun k hk => absurd hk (by simp)⟩
  | cons h _ ih =>
    refine ⟨by simp [ih.1], fun k hk => ?_⟩
    cases k with
    | zero => simpa using h
    | succ k => simpa using ih.2 k (by simpa using hk)

theorem RL.to {C : Imm} {vs : List Value} {ds : List D} (h : RL C vs ds) : RepDs C vs.toArray ds := by
  refine ⟨by simpa using h.all.1, fun k hk => ?_⟩
  have := h.all.2 k hk
  simpa [Array.getD_eq_getD_getElem?, List.getD_eq_getElem?_getD] using this

theorem yielded_undef {G : Gh} {s : Slots} {δ : Defs} {a : Act} {ops : Array Oper} {j : Nat} {t : Tmp} (hr : RelA G s δ a) (hj : (ops[j]?).bind (·.dst) = some t) (hb : evalO s (.tmp t) = .tup []) : yielded ops a.tmps j = none := by
  have h1 := hr.eval (.tmp t)
  rw [hb] at h1
  simp only [Act.eval] at h1
  unfold yielded
  simp only [hj, Option.bind_some]
  generalize hv : a.tmps.getD t undef = v at h1
  cases h1 with
  | tup vs ds h h' =>
    by_cases hlt : t < a.tmps.size
    · rw [Array.getElem?_eq_getElem hlt]
      simp only [Array.getD_eq_getD_getElem?, Array.getElem?_eq_getElem hlt, Option.getD_some] at hv
      rw [hv]
    · rw [Array.getElem?_eq_none (Nat.le_of_not_lt hlt)]

/-- An operation under a guard that was not taken itself. -/
theorem sl_guard_u {P : Program} {ops : Array Oper} {Q : Post} {s : Slots} {δ : Defs} {σ : List Chunk} {o : Oper} {rest : List Oper} {j : Nat} {want : Bool} {t : Tmp} (hg : o.guard = some (j, want)) (hj : (ops[j]?).bind (·.dst) = some t)
    (hb : evalO s (.tmp t) = .tup []) (hn : SL P ops rest Q (sput s o.dst (.tup [])) δ σ) : SL P ops (o :: rest) Q s δ σ := fun G a w hi hr => by
  have hyd := yielded_undef hr hj hb
  have h1 := hn G _ w hi (hr.put o.dst (rep_undef G.C))
  unfold wpList
  rw [if_neg (by simp [Region.wanted, hg, hyd])]
  exact h1

theorem sa_take_u {P : Program} {ops : Array Oper} {Q : Post} {s : Slots} {δ : Defs} {σ : List Chunk} {K : Exacts} {fuel : Nat} {listed : Array Bool} (i : Nat) {o : Oper} {j : Nat} {want : Bool} {t : Tmp} (ho : ops[i]? = some o) (hg : o.guard = some (j, want)) (hj : (ops[j]?).bind (·.dst) = some t) (hb : evalO s (.tmp t) = .tup [])
    (hs : Region.noSelect ops = true) (hf : Region.free .any ops listed i = true)
    (hr : (Region.ready .any ops listed).contains i = true) [hQ : PanicOk Q] (hK : ExactsOf K σ)
    (h : SA P ops fuel (listed.setIfInBounds i true) Q (sput s o.dst (.tup [])) δ σ K) : SA P ops (fuel + 1) listed Q s δ σ K := fun G a w hi hrel => by
  have hyd := yielded_undef hrel hj hb
  exact wpAnyH_take (v := undef) ho hs hf hr (fun c a w hl => lift_panic hQ hl) (.inr ⟨by simp [Region.wanted, hg, hyd], rfl⟩) (kept_of hi hK) (h G _ w hi (hrel.put o.dst (rep_undef G.C)))

/-- Two operations may come now. -/
theorem sa_two {P : Program} {ops : Array Oper} {Q : Post} {s : Slots} {δ : Defs} {σ : List Chunk} {K : Exacts} {fuel : Nat} {listed : Array Bool} (i j : Nat) {o o' : Oper} (hr : Region.ready .any ops listed = [i, j]) (ho : ops[i]? = some o) (ho' : ops[j]? = some o')
    (h : SL P ops [o] (stepQ (fun s δ σ => ExactsOf K σ ∧ SA P ops fuel (listed.setIfInBounds i true) Q s δ σ K) Q) s δ σ)
    (h' : SL P ops [o'] (stepQ (fun s δ σ => ExactsOf K σ ∧ SA P ops fuel (listed.setIfInBounds j true) Q s δ σ K) Q) s δ σ) : SA P ops (fuel + 1) listed Q s δ σ K :=
  sa_all hr (by simp) fun k hk => by
    rcases List.mem_cons.mp hk with rfl | hk
    · exact ⟨o, ho, h⟩
    · rw [List.mem_singleton] at hk
      subst hk
      exact ⟨o', ho', h'⟩

/-- A cell's list without room gets an owner, ahead of code. -/
theorem sw_own_blk {P : Program} {Q : Post} {s : Slots} {δ : Defs} {σ : List Chunk} {c : Code} {b i sz : Nat} {ds : List D} {xs : List V} (hd : ds[i]? = some (.fix xs))
    (k : ∀ v, SW P c Q s δ (.blk b (ds.set i (.own v xs)) :: .spare v sz :: σ)) : SW P c Q s δ (.blk b ds :: σ) := fun G a w hi hr => by
  obtain ⟨hlt, hdi⟩ := List.getElem?_eq_some_iff.mp hd
  obtain ⟨cs, ty, fz, h, h1, h2, h3⟩ := hi.holds _ (List.mem_cons_self ..)
  have hv := h3 i hlt
  rw [hdi] at hv
  generalize hval : cs.getD i undef = v at hv
  cases hv with
  | fix ad xs hx =>
    have hi' : Inv G (.spare (.slice ad xs.length xs.length) sz :: .blk b ds :: σ) w := hi.add ⟨ad, _, _, rfl, .inl rfl⟩ (fun b e => by cases ad <;> simp [Chunk.b?] at e) (fun b o e => by cases ad <;> simp [Chunk.owns] at e) (fun b e => by cases ad <;> simp [Chunk.b?] at e)
    have hi2 : Inv G (.blk b ds :: .spare (.slice ad xs.length xs.length) sz :: σ) w := hi'.perm (List.Perm.swap _ _ _)
    refine k (.slice ad xs.length xs.length) G a w (hi2.change (b := b) rfl (fun x e => by simpa [Chunk.b?] using e.symm) G.le_refl (fun x o v hv => .inl hv) rfl rfl rfl rfl (fun _ _ => rfl) (fun o v hv => hi.agree _ _ _ hv) ?_ (fun x o e => hi.apart _ (List.mem_cons_self ..) x o e)) hr
    refine ⟨cs, ty, fz, h, h1, by simpa using h2, fun k hk => ?_⟩
    have hk' : k < ds.length := by simpa using hk
    by_cases e : i = k
    · subst e
      rw [List.getElem_set_self, hval]; exact .own _ _ hx
    · rw [List.getElem_set_ne e]; exact h3 k hk'

/-- A struct that lies in an owned block, as a result. -/
theorem res_celln {P : Program} {fn : Func} {s : Slots} {σ : List Chunk} {t : Tmp} {ty : TypeId} {b f n : Nat} {ds : List D} (h : fn.results = #[.cell t ty]) (hs : evalO s (.tmp t) = .ptr b f) (ha : aggOf P ty = some true) (hn : szOf P ty = some n)
    (hm : (.blk b ds) ∈ σ) (hle : f + n ≤ ds.length) : ResD P fn s σ (.agg ((ds.drop f).take n)) := fun G a w hi ⟨_, hr⟩ => by
  obtain ⟨vs, h2, h3⟩ := cell_of_blk hi hm
  have h1 := hr.eval (.tmp t); rw [hs] at h1; have e1 := rep_ptr h1
  have e1 : a.tmps.getD t undef = .pointer (some ⟨b, f, none⟩) := e1
  refine ⟨.agg ((List.range n).map fun k => vs (f + k)).toArray, ?_, .agg _ _ (by simp; omega) (fun k hk => ?_)⟩
  · unfold results
    have hl : (loadVar ty ⟨b, f, none⟩).run P w = .ok (.agg ((List.range n).map fun k => vs (f + k)).toArray) w := by
      have := run_load_agg (P := P) (w := w) (vs := fun k => vs (f + k)) ha hn (fun k hk => h2 _ (by omega))
      simpa only [Instr.loadAt, Instr.sureAddr, Sem.run_bind, Sem.run_pure, Result.andThen_ok] using this
    have : ∀ (g : ResultVar → Sem Value), (Array.mapM g #[ResultVar.cell t ty]) = (do let x ← g (.cell t ty); pure #[x]) := fun g => by
      rw [show (#[ResultVar.cell t ty]) = [ResultVar.cell t ty].toArray from rfl, List.mapM_toArray]
      simp
    rw [h, this]
    simp only [e1, asAddr, Sem.run_bind, Sem.run_pure, Result.andThen_ok, hl]
    rfl
  · have hk' : k < n := by simp at hk; omega
    rw [range_getD n k _ hk', List.getElem_take, List.getElem_drop]
    exact h3 _ (by omega)

/-- The same datum in other words, in a region that draws its order. -/
theorem sa_set {P : Program} {ops : Array Oper} {Q : Post} {s : Slots} {δ : Defs} {σ : List Chunk} {fuel : Nat} {listed : Array Bool} {K : Exacts} (t : Nat) (d' : D) (h : s.get t = d')
    (c : SA P ops fuel listed Q (sput s (some t) d') δ σ K) : SA P ops fuel listed Q s δ σ K := fun G a w hi hr => c G a w hi (hr.recast t fun v r => h ▸ r)

/-- A block of pure data becomes immutable, ahead of code. -/
theorem sw_freeze {P : Program} {Q : Post} {s : Slots} {δ : Defs} {σ : List Chunk} {c : Code} {t b : Nat} {ds : List D} {xs : List V} (hs : s.get t = .ptr b 0) (hx : toVs ds = some xs)
    (k : SW P c Q (sput s (some t) (.rp xs)) δ σ) : SW P c Q s δ (.blk b ds :: σ) := fun G a w hi hr => by
  obtain ⟨cs, ty, fz, h, h1, h2, h3⟩ := hi.holds _ (List.mem_cons_self ..)
  obtain ⟨hle, hi'⟩ := hi.freeze h
  obtain ⟨h4, h5⟩ := toVs_rep h2 h3 hx
  refine wp_mono (k _ a w hi' ?_) fun e a w l => l.mono hle
  refine (hr.mono hle).recast t fun v r => ?_
  rw [hs] at r
  have hv := rep_ptr r
  rw [hv]
  refine .rp b 0 xs (fun k => cs.getD k undef) (fun k hk => ?_) (fun k hk => (h5 k hk).mono hle.2)
  have hk' : k < cs.size := by omega
  show (if b = b then cs[0 + k]? else G.C b (0 + k)) = _
  rw [if_pos rfl, Nat.zero_add, Array.getElem?_eq_getElem hk', Array.getD_eq_getD_getElem?, Array.getElem?_eq_getElem hk']; rfl

/-- A list without room gets an owner, ahead of code. -/
theorem sw_own {P : Program} {Q : Post} {s : Slots} {δ : Defs} {σ : List Chunk} {c : Code} {t : Nat} {sz : Nat} {xs : List V} (hs : evalO s (.tmp t) = .fix xs)
    (k : ∀ v, SW P c Q (sput s (some t) (.own v xs)) δ (.spare v sz :: σ)) : SW P c Q s δ σ := fun G a w hi hr => by
  have hv := hr.eval (.tmp t)
  rw [hs] at hv
  generalize hval : a.eval (.tmp t) = v at hv
  cases hv with
  | fix ad xs h =>
    refine k (.slice ad xs.length xs.length) G a w (hi.add ⟨ad, xs.length, xs.length, rfl, .inl rfl⟩ (fun b e => ?_) (fun b o e => ?_) (fun b e => ?_)) ?_
    · cases ad <;> simp [Chunk.b?] at e
    · cases ad <;> simp [Chunk.owns] at e
    · cases ad <;> simp [Chunk.b?] at e
    · have hlt : t < s.n := by
        by_cases h : t < s.n
        · exact h
        · rw [evalO_ge h] at hs; cases hs
      refine ⟨hr.size, fun k hk => ?_, hr.defs, hr.defd⟩
      rw [get_put]
      have hk : k < s.n := hk
      split
      · rename_i e; subst e
        have hval : a.tmps.getD t undef = _ := hval
        rw [hval]; exact .own _ _ h
      · exact hr.slot k hk

/-- A law by its contract. -/
theorem law_run {P : Program} {f : FuncId} {ds : List D} (h : FSpec P f ds [] fun d σ' => d = .val (.bool true) ∧ σ' = []) {W : World} {vs : List Value} (hr : RL (memC W) vs ds) :
    Calls P f vs.toArray W fun e w' => e = .returned (.bool true) ∧ Below W.heap.size W w' := law_calls (h.mono fun _ _ h => h.1) hr.to

end Go.Proofs.Ytioechdfghglhaa.SL
