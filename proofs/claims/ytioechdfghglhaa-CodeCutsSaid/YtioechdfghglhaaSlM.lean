/- The program logic, thirteenth part: how a statement's arguments are handed to a contract. -/
import Derived.Test.YtioechdfghglhaaSlL
namespace Go.Proofs.Ytioechdfghglhaa.SL
set_option linter.unusedVariables false
set_option linter.unusedSimpArgs false
open Go Go.RowKit

theorem wf_range {k : IntKind} {n : Int} (h : (Lit.int k n).wf = true) : k.min ≤ n ∧ n ≤ k.max := by
  simpa [Lit.wf] using h

theorem wf_i64 {n : Int} (h : (Lit.int .i64 n).wf = true) : -9223372036854775808 ≤ n ∧ n ≤ 9223372036854775807 := wf_range h

theorem wf_u64 {n : Int} (h : (Lit.int .u64 n).wf = true) : 0 ≤ n ∧ n ≤ 18446744073709551615 := wf_range h

theorem wf_u8 {n : Int} (h : (Lit.int .u8 n).wf = true) : 0 ≤ n ∧ n ≤ 255 := wf_range h

inductive RL (C : Imm) : List Value → List D → Prop
  | nil : RL C [] []
  | cons {v : Value} {d : D} {vs : List Value} {ds : List D} (h : RepD C v d) (hs : RL C vs ds) : RL C (v :: vs) (d :: ds)

theorem RL.all {C : Imm} {vs : List Value} {ds : List D} (h : RL C vs ds) : vs.length = ds.length ∧ ∀ k (hk : k < ds.length), RepD C (vs.getD k undef) ds[k] := by
  induction h with
  | nil => exact ⟨rfl, fun k hk => absurd hk (by simp)⟩
  | cons h _ ih =>
    refine ⟨by simp [ih.1], fun k hk => ?_⟩
    cases k with
    | zero => simpa using h
    | succ k => simpa using ih.2 k (by simpa using hk)

theorem RL.to {C : Imm} {vs : List Value} {ds : List D} (h : RL C vs ds) : RepDs C vs.toArray ds := by
  refine ⟨by simpa using h.all.1, fun k hk => ?_⟩
  have := h.all.2 k hk
  simpa [Array.getD_eq_getD_getElem?, List.getD_eq_getElem?_getD] using this

/-- A law by its contract. -/
theorem law_run {P : Program} {f : FuncId} {ds : List D} (h : FSpec P f ds [] fun d σ' => d = .val (.bool true) ∧ σ' = []) {W : World} {vs : List Value} (hr : RL (memC W) vs ds) :
    Calls P f vs.toArray W fun e w' => e = .returned (.bool true) ∧ Below W.heap.size W w' := law_calls (h.mono fun _ _ h => h.1) hr.to

end Go.Proofs.Ytioechdfghglhaa.SL
