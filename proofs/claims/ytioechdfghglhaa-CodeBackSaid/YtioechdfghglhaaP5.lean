/- Lists of numbers, texts and truths as a statement's arguments; small facts of lists. -/
import Derived.Test.YtioechdfghglhaaP4
import Derived.Test.YtioechdfghglhaaSlM
namespace Go.Proofs.Ytioechdfghglhaa
set_option linter.unusedVariables false
set_option linter.unusedSimpArgs false
open Go Go.RowKit SL

theorem all_take_snoc {α : Type} {F : α → Prop} {l : List α} {k : Nat} (h : ∀ s ∈ l.take k, F s) (hk : k < l.length) (hF : F l[k]) : ∀ s ∈ l.take (k + 1), F s := fun s hs => by
  rw [take_snoc hk] at hs
  rcases List.mem_append.mp hs with hs | hs
  · exact h s hs
  · rw [List.mem_singleton.mp hs]; exact hF

theorem choose_all {α : Type} {f : α → V} {F : α → Prop} : ∀ (ys : List V), (∀ y ∈ ys, ∃ a, y = f a ∧ F a) → ∃ as : List α, ys = as.map f ∧ ∀ a ∈ as, F a
  | [], _ => ⟨[], rfl, fun a h => absurd h (by simp)⟩
  | y :: ys, h => by
    obtain ⟨a, rfl, ha⟩ := h y (by simp)
    obtain ⟨as, rfl, hs⟩ := choose_all ys fun y hy => h y (by simp [hy])
    exact ⟨a :: as, rfl, fun b hb => by
      rcases List.mem_cons.mp hb with rfl | hb
      · exact ha
      · exact hs b hb⟩

/-- What covers a list's elements covers the list. -/
theorem cov_list {P : Program} {t e : TypeId} {sz : Nat} {α : Type} (f : α → V) {F : α → Prop} (mk : List V → V) (hmk : ∀ a, mk (f a).cells = f a) (ht : P.underlying t = some (.slice e)) (hc : P.cellsOf e = sz) (hsz : 0 < sz)
    (he : ∀ n, Covers P n e fun xs => ∃ a, xs = (f a).cells ∧ F a) : ∀ n, Covers P n t fun xs => ∃ as : List α, xs = [.list (as.map f)] ∧ (∀ a ∈ as, F a) ∧ as.length ≤ maxLen := fun n => by
  cases n with
  | zero => exact covers_zero
  | succ n =>
    refine (covers_slice mk ht hc hsz (he n) (fun xs h => by obtain ⟨a, rfl, _⟩ := h; rw [hmk])).mono fun xs h => ?_
    obtain ⟨ys, rfl, h1, h2⟩ := h
    obtain ⟨as, rfl, h3⟩ := choose_all (f := f) (F := F) ys fun y hy => by
      obtain ⟨zs, ⟨a, rfl, ha⟩, rfl⟩ := h1 y hy
      exact ⟨a, hmk a, ha⟩
    exact ⟨as, rfl, h3, by simpa using h2⟩

def hd1 (xs : List V) : V := xs.headD .nil

theorem cov_u64 {P : Program} {e : TypeId} (he : P.underlying e = some (.int .u64)) (n : Nat) : Covers P n e fun xs => ∃ a : Nat, xs = (u64V a).cells ∧ a < 18446744073709551616 :=
  (covers_int he).mono fun xs h => by
    obtain ⟨i, rfl, h1, h2⟩ := h
    have h1 : 0 ≤ i := h1
    have h2 : i ≤ 18446744073709551615 := h2
    exact ⟨i.toNat, by simp only [u64V, V.cells]; rw [show ((i.toNat : Nat) : Int) = i by omega], by omega⟩

theorem cov_i64 {P : Program} {e : TypeId} (he : P.underlying e = some (.int .i64)) (n : Nat) : Covers P n e fun xs => ∃ a : Int, xs = (i64V a).cells ∧ isI64 a :=
  (covers_int he).mono fun xs h => by
    obtain ⟨i, rfl, h1, h2⟩ := h
    exact ⟨i, rfl, h1, h2⟩

theorem cov_str {P : Program} {e : TypeId} (he : P.underlying e = some .string) (n : Nat) : Covers P n e fun xs => ∃ a : List UInt8, xs = (strV a).cells ∧ a.length ≤ maxLen :=
  (covers_str he).mono fun xs h => by
    obtain ⟨l, rfl, h⟩ := h
    exact ⟨l, rfl, h⟩

theorem cov_bool {P : Program} {e : TypeId} (he : P.underlying e = some .bool) (n : Nat) : Covers P n e fun xs => ∃ a : Bool, xs = (boolV a).cells ∧ True :=
  (covers_bool he).mono fun xs h => by
    obtain ⟨b, rfl⟩ := h
    exact ⟨b, rfl, trivial⟩

theorem cov_u8 {P : Program} {e : TypeId} (he : P.underlying e = some (.int .u8)) (n : Nat) : Covers P n e fun xs => ∃ a : UInt8, xs = (byteV a).cells ∧ True :=
  (covers_int he).mono fun xs h => by
    obtain ⟨i, rfl, h1, h2⟩ := h
    have h1 : 0 ≤ i := h1
    have h2 : i ≤ 255 := h2
    refine ⟨UInt8.ofNat i.toNat, ?_, trivial⟩
    simp only [byteV, V.cells]
    have : ((UInt8.ofNat i.toNat).toNat : Int) = i := by simp; omega
    rw [this]

theorem cov_u64s {P : Program} {t e : TypeId} (ht : P.underlying t = some (.slice e)) (he : P.underlying e = some (.int .u64)) (hc : P.cellsOf e = 1) : ∀ n, Covers P n t fun xs => ∃ as : List (Nat), xs = [.list (as.map u64V)] ∧ (∀ a ∈ as, a < 18446744073709551616) ∧ as.length ≤ maxLen := cov_list u64V hd1 (fun _ => rfl) ht hc (by decide) (cov_u64 he)
theorem cov_i64s {P : Program} {t e : TypeId} (ht : P.underlying t = some (.slice e)) (he : P.underlying e = some (.int .i64)) (hc : P.cellsOf e = 1) : ∀ n, Covers P n t fun xs => ∃ as : List (Int), xs = [.list (as.map i64V)] ∧ (∀ a ∈ as, isI64 a) ∧ as.length ≤ maxLen := cov_list i64V hd1 (fun _ => rfl) ht hc (by decide) (cov_i64 he)
theorem cov_strs {P : Program} {t e : TypeId} (ht : P.underlying t = some (.slice e)) (he : P.underlying e = some .string) (hc : P.cellsOf e = 1) : ∀ n, Covers P n t fun xs => ∃ as : List (List UInt8), xs = [.list (as.map strV)] ∧ (∀ a ∈ as, a.length ≤ maxLen) ∧ as.length ≤ maxLen := cov_list strV hd1 (fun _ => rfl) ht hc (by decide) (cov_str he)
theorem cov_bools {P : Program} {t e : TypeId} (ht : P.underlying t = some (.slice e)) (he : P.underlying e = some .bool) (hc : P.cellsOf e = 1) : ∀ n, Covers P n t fun xs => ∃ as : List (Bool), xs = [.list (as.map boolV)] ∧ (∀ a ∈ as, True) ∧ as.length ≤ maxLen := cov_list boolV hd1 (fun _ => rfl) ht hc (by decide) (cov_bool he)
theorem cov_bytes {P : Program} {t e : TypeId} (ht : P.underlying t = some (.slice e)) (he : P.underlying e = some (.int .u8)) (hc : P.cellsOf e = 1) : ∀ n, Covers P n t fun xs => ∃ as : List (UInt8), xs = [.list (as.map byteV)] ∧ (∀ a ∈ as, True) ∧ as.length ≤ maxLen := cov_list byteV hd1 (fun _ => rfl) ht hc (by decide) (cov_u8 he)

/-- A list as a statement's argument. -/
theorem arg_list {P : Program} {t : TypeId} {α : Type} {f : α → V} {F : α → Prop} (hc : ∀ n, Covers P n t fun xs => ∃ as : List α, xs = [.list (as.map f)] ∧ (∀ a ∈ as, F a) ∧ as.length ≤ maxLen)
    {H : Type} {enc : TypeId × Value → H} {W : World} {sp : Nat → Bool} {held : Bool} {v : Value} {d : DataW H} {ps : List MemPlace} (h : DataW.Trod enc P W 0 sp held t v d ps) (hv : ∀ cs, v ≠ .agg cs) :
    ∃ as : List α, ((∀ a ∈ as, F a) ∧ as.length ≤ maxLen) ∧ RepV (memC W) v (.list (as.map f)) := by
  obtain ⟨xs, ⟨as, rfl, h1, h2⟩, h3⟩ := covers_arg1 hc h hv
  exact ⟨as, ⟨h1, h2⟩, h3 _ rfl⟩

end Go.Proofs.Ytioechdfghglhaa
