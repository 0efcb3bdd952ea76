/- A list that is changed from the left on; intervals that say nothing: plain Lean. -/
import Derived.Test.YtioechdfghglhaaP11
namespace Go.Proofs.Ytioechdfghglhaa
set_option linter.unusedVariables false
set_option linter.unusedSimpArgs false
open Go Go.RowKit SL

/-- The first j changed, the others not yet. -/
def mix {α : Type} (f : α → α) (l : List α) (j : Nat) : List α := (l.take j).map f ++ l.drop j

theorem mix_zero {α : Type} (f : α → α) (l : List α) : mix f l 0 = l := by simp [mix]
theorem mix_len {α : Type} (f : α → α) (l : List α) (j : Nat) : (mix f l j).length = l.length := by
  simp only [mix, List.length_append, List.length_map, List.length_take, List.length_drop]; omega
theorem mix_all {α : Type} (f : α → α) (l : List α) {j : Nat} (h : l.length ≤ j) : mix f l j = l.map f := by
  simp [mix, List.take_of_length_le h, List.drop_eq_nil_of_le h]
theorem mix_get {α : Type} (f : α → α) {l : List α} {j : Nat} (h : j < l.length) : (mix f l j)[j]? = some l[j] := by
  have : ((l.take j).map f).length = j := by simp; omega
  rw [mix, List.getElem?_append_right (by omega), this, Nat.sub_self, List.getElem?_drop, Nat.add_zero, List.getElem?_eq_getElem h]
theorem mix_next {α : Type} (f : α → α) {l : List α} {j : Nat} (h : j < l.length) : mix f l (j + 1) = (l.take j).map f ++ (f l[j] :: l.drop (j + 1)) := by
  rw [mix, List.take_add_one, List.getElem?_eq_getElem h, List.map_append, List.append_assoc]; rfl
theorem mix_set {α : Type} (f : α → α) {l : List α} {j : Nat} (h : j < l.length) : (mix f l j).set j (f l[j]) = mix f l (j + 1) := by
  have : ((l.take j).map f).length = j := by simp; omega
  rw [mix_next f h, mix, List.set_append_right _ _ (by omega), this, Nat.sub_self, List.drop_eq_getElem_cons h, List.set_cons_zero]
theorem mix_same {α : Type} (f : α → α) {l : List α} {j : Nat} (h : j < l.length) (he : f l[j] = l[j]) : mix f l j = mix f l (j + 1) := by
  rw [mix_next f h, mix, he, List.drop_eq_getElem_cons h]

def normV (v : Ivl) : Ivl := if v.some then v else noIval
def normM (m : Nmd) : Nmd := ⟨m.name, normV m.v⟩
def normS (s : Smy) : Smy := ⟨s.alarms, s.ends, normV s.ret, s.mod.map normM⟩

theorem normV_t {v : Ivl} (h : v.some = true) : normV v = v := by simp [normV, h]
theorem normV_f {v : Ivl} (h : v.some = false) : normV v = noIval := by simp [normV, h]
theorem normM_t {m : Nmd} (h : m.v.some = true) : normM m = m := by unfold normM; rw [normV_t h]

end Go.Proofs.Ytioechdfghglhaa
