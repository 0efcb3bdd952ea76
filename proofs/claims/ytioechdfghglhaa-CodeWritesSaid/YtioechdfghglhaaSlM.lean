/- The program logic, thirteenth part: how a statement's arguments are handed to a contract. -/
import Derived.Test.YtioechdfghglhaaSlL
namespace Go.Proofs.Ytioechdfghglhaa.SL
set_option linter.unusedVariables false
set_option linter.unusedSimpArgs false
open Go Go.RowKit

theorem wf_range {k : IntKind} {n : Int} (h : (Lit.int k n).wf = true) : k.min ≤ n ∧ n ≤ k.max := by
  simpa [Lit.wf] using h

theorem wf_i64 {n : Int} (h : (Lit.int .i64 n).wf = true) : -9223372036854775808 ≤ n ∧ n ≤ 9223372036854775807 := wf_range h

theorem wf_u64 {n : Int} (h : (Lit.int .u64 n).wf = true) : 0 ≤ n ∧ n ≤ 18446744073709551615 := wf_range h

theorem wf_u8 {n : Int} (h : (Lit.int .u8 n).wf = true) : 0 ≤ n ∧ n ≤ 255 := wf_range h

inductive RL (C : Imm) : List Value → List D → Prop
  | nil : RL C [] []
  | cons {v : Value} {d : D} {vs : List Value} {ds : List D} (h : RepD C v d) (hs : RL C vs ds) : RL C (v :: vs) (d :: ds)

theorem RL.all {C : Imm} {vs : List Value} {ds : List D} (h : RL C vs ds) : vs.length = ds.length ∧ ∀ k (hk : k < ds.length), RepD C (vs.getD k undef) ds[k] := by
  induction h with
  | nil => exact ⟨rfl, fun k hk => absurd hk (by simp)⟩
  | cons h _ ih =>
    refine ⟨by simp [ih.1], fun k hk => ?_⟩
    cases k with
    | zero => simpa using h
    | succ k => simpa using ih.2 k (by simpa using hk)

theorem RL.to {C : Imm} {vs : List Value} {ds : List D} (h : RL C vs ds) : RepDs C vs.toArray ds := by
  refine ⟨by simpa using h.all.1, fun k hk => ?_⟩
  have := h.all.2 k hk
  simpa [Array.getD_eq_getD_getElem?, List.getD_eq_getElem?_getD] using this

/-- The same datum in other words, in a region that draws its order. -/
theorem sa_set {P : Program} {ops : Array Oper} {Q : Post} {s : Slots} {δ : Defs} {σ : List Chunk} {fuel : Nat} {listed : Array Bool} {K : Exacts} (t : Nat) (d' : D) (h : s.get t = d')
    (c : SA P ops fuel listed Q (sput s (some t) d') δ σ K) : SA P ops fuel listed Q s δ σ K := fun G a w hi hr => c G a w hi (hr.recast t fun v r => h ▸ r)

/-- A block of pure data becomes immutable, ahead of code. -/
theorem sw_freeze {P : Program} {Q : Post} {s : Slots} {δ : Defs} {σ : List Chunk} {c : Code} {t b : Nat} {ds : List D} {xs : List V} (hs : s.get t = .ptr b 0) (hx : toVs ds = some xs)
    (k : SW P c Q (sput s (some t) (.rp xs)) δ σ) : SW P c Q s δ (.blk b ds :: σ) := fun G a w hi hr => by
  obtain ⟨cs, ty, fz, h, h1, h2, h3⟩ := hi.holds _ (List.mem_cons_self ..)
  obtain ⟨hle, hi'⟩ := hi.freeze h
  obtain ⟨h4, h5⟩ := toVs_rep h2 h3 hx
  refine wp_mono (k _ a w hi' ?_) fun e a w l => l.mono hle
  refine (hr.mono hle).recast t fun v r => ?_
  rw [hs] at r
  have hv := rep_ptr r
  rw [hv]
  refine .rp b 0 xs (fun k => cs.getD k undef) (fun k hk => ?_) (fun k hk => (h5 k hk).mono hle.2)
  have hk' : k < cs.size := by omega
  show (if b = b then cs[0 + k]? else G.C b (0 + k)) = _
  rw [if_pos rfl, Nat.zero_add, Array.getElem?_eq_getElem hk', Array.getD_eq_getD_getElem?, Array.getElem?_eq_getElem hk']; rfl

/-- A list without room gets an owner, ahead of code. -/
theorem sw_own {P : Program} {Q : Post} {s : Slots} {δ : Defs} {σ : List Chunk} {c : Code} {t : Nat} {sz : Nat} {xs : List V} (hs : evalO s (.tmp t) = .fix xs)
    (k : ∀ v, SW P c Q (sput s (some t) (.own v xs)) δ (.spare v sz :: σ)) : SW P c Q s δ σ := fun G a w hi hr => by
  have hv := hr.eval (.tmp t)
  rw [hs] at hv
  generalize hval : a.eval (.tmp t) = v at hv
  cases hv with
  | fix ad xs h =>
    refine k (.slice ad xs.length xs.length) G a w (hi.add ⟨ad, xs.length, xs.length, rfl, .inl rfl⟩ (fun b e => ?_) (fun b o e => ?_) (fun b e => ?_)) ?_
    · cases ad <;> simp [Chunk.b?] at e
    · cases ad <;> simp [Chunk.owns] at e
    · cases ad <;> simp [Chunk.b?] at e
    · have hlt : t < s.n := by
        by_cases h : t < s.n
        · exact h
        · rw [evalO_ge h] at hs; cases hs
      refine ⟨hr.size, fun k hk => ?_, hr.defs, hr.defd⟩
      rw [get_put]
      have hk : k < s.n := hk
      split
      · rename_i e; subst e
        have hval : a.tmps.getD t undef = _ := hval
        rw [hval]; exact .own _ _ h
      · exact hr.slot k hk

/-- A law by its contract. -/
theorem law_run {P : Program} {f : FuncId} {ds : List D} (h : FSpec P f ds [] fun d σ' => d = .val (.bool true) ∧ σ' = []) {W : World} {vs : List Value} (hr : RL (memC W) vs ds) :
    Calls P f vs.toArray W fun e w' => e = .returned (.bool true) ∧ Below W.heap.size W w' := law_calls (h.mono fun _ _ h => h.1) hr.to

end Go.Proofs.Ytioechdfghglhaa.SL
