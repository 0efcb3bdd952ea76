/- What is written is read back: plain Lean. -/
import Derived.Test.YtioechdfghglhaaP12
namespace Go.Proofs.Ytioechdfghglhaa
set_option linter.unusedVariables false
set_option linter.unusedSimpArgs false
open Go Go.RowKit SL

def AlmI32 (a : Alm) : Prop := isI32 a.pos ∧ isI32 a.kind

theorem isI32_64 {n : Int} (h : isI32 n) : isI64 n := by unfold isI32 at h; unfold isI64; omega

theorem decS_enc {n : Int} (h : isI32 n) (l : List UInt8) : decS (encInt n ++ l) = some (n, l) := by
  unfold decS bindR; rw [decI_enc (isI32_64 h)]; exact if_pos h

theorem decV_enc {v : Ivl} (h : IvlOk v) (l : List UInt8) : decV (encIval v ++ l) = some (normV v, l) := by
  unfold decV bindR encIval
  rw [List.append_assoc, decB_enc]
  obtain ⟨b, lo, hi⟩ := v
  cases b with
  | false => rfl
  | true =>
    simp only [if_true, List.append_assoc]
    rw [decI_enc h.1]
    simp only
    rw [decI_enc h.2]
    rfl

theorem decA_enc {a : Alm} (h : AlmI32 a) (l : List UInt8) : decA (encAlarm a ++ l) = some (a, l) := by
  unfold decA bindR encAlarm
  rw [List.append_assoc, decS_enc h.1]
  simp only
  rw [decS_enc h.2]

theorem decM_enc {m : Nmd} (h : IvlOk m.v) (hl : m.name.length < 18446744073709551616) (l : List UInt8) : decM (encNamed m ++ l) = some (normM m, l) := by
  unfold decM bindR encNamed
  rw [List.append_assoc, decT_enc hl]
  simp only
  rw [decV_enc h]
  rfl

theorem decMany_snoc {α : Type} (dec : List UInt8 → Option (α × List UInt8)) (n : Nat) (l : List UInt8) : decMany dec (n + 1) l = bindR (decMany dec n l) fun xs r => bindR (dec r) fun x r => some (xs ++ [x], r) := rfl

/-- So many written are so many read. -/
theorem decMany_enc {α : Type} {dec : List UInt8 → Option (α × List UInt8)} {enc : α → List UInt8} {nrm : α → α} : ∀ (k : Nat) (xs : List α), k ≤ xs.length → (∀ x ∈ xs, ∀ l, dec (enc x ++ l) = some (nrm x, l)) → ∀ l,
    decMany dec k (xs.flatMap enc ++ l) = some ((xs.take k).map nrm, (xs.drop k).flatMap enc ++ l)
  | 0, xs, _, h, l => by simp [decMany]
  | k + 1, xs, hk, h, l => by
    have hk' : k < xs.length := hk
    rw [decMany_snoc, decMany_enc k xs (by omega) h l]
    unfold bindR
    simp only
    rw [List.drop_eq_getElem_cons hk', List.flatMap_cons, List.append_assoc, h _ (List.getElem_mem hk')]
    simp only
    rw [take_snoc hk', List.map_append]; rfl

theorem flat_ge {α : Type} {f : α → List UInt8} : ∀ {ns : List α}, (∀ n ∈ ns, 0 < (f n).length) → ns.length ≤ (ns.flatMap f).length
  | [], _ => Nat.le_refl _
  | n :: ns, h => by
    have := flat_ge (f := f) (ns := ns) fun m hm => h m (List.mem_cons_of_mem _ hm)
    have := h n (List.mem_cons_self ..)
    rw [List.flatMap_cons, List.length_append, List.length_cons]; omega

theorem encAlarm_pos (a : Alm) : 0 < (encAlarm a).length := by
  have := encNum_pos (zig a.pos)
  unfold encAlarm encInt
  rw [List.length_append]; omega
theorem encNamed_pos (m : Nmd) : 0 < (encNamed m).length := by
  have := encText_pos m.name
  unfold encNamed
  rw [List.length_append]; omega

theorem decAl_enc {al : List Alm} (h : ∀ a ∈ al, AlmI32 a) (hn : al.length < 18446744073709551616) (l : List UInt8) : decAl (encAlarms al ++ l) = some (al, l) := by
  unfold decAl decC bindR encAlarms
  rw [List.append_assoc, decN_enc hn]
  simp only
  have := flat_ge (f := encAlarm) (ns := al) fun a _ => encAlarm_pos a
  rw [if_pos (by rw [List.length_append]; omega)]
  simp only
  rw [decMany_enc (nrm := id) al.length al (Nat.le_refl _) (fun a ha l => decA_enc (h a ha) l) l]
  simp

theorem decMl_enc {ml : List Nmd} (h : ∀ m ∈ ml, IvlOk m.v ∧ m.name.length < 18446744073709551616) (hn : ml.length < 18446744073709551616) (l : List UInt8) : decMl (encNum ml.length ++ (ml.flatMap encNamed ++ l)) = some (ml.map normM, l) := by
  unfold decMl decC bindR
  rw [decN_enc hn]
  simp only
  have := flat_ge (f := encNamed) (ns := ml) fun a _ => encNamed_pos a
  rw [if_pos (by rw [List.length_append]; omega)]
  simp only
  rw [decMany_enc (nrm := normM) ml.length ml (Nat.le_refl _) (fun m hm l => decM_enc (h m hm).1 (h m hm).2 l) l]
  simp

theorem decSumm_enc {s : Smy} (h : SmyOk s) (hl : SmyLight s) (h32 : ∀ a ∈ s.alarms, AlmI32 a) (l : List UInt8) : decSumm (encSumm s ++ l) = some (normS s, l) := by
  unfold decSumm bindR encSumm
  simp only [List.append_assoc]
  rw [decAl_enc h32 (by have := hl.1; omega)]
  simp only
  rw [decB_enc]
  simp only
  rw [decV_enc h.2.1]
  simp only
  rw [decMl_enc (fun m hm => ⟨h.2.2 m hm, by have := hl.2.2 m hm; omega⟩) (by have := hl.2.1; omega)]
  rfl

theorem drop_flat {α : Type} {f : α → List UInt8} {ns : List α} {k : Nat} (h : k < ns.length) : (ns.drop k).flatMap f = f ns[k] ++ (ns.drop (k + 1)).flatMap f := by
  rw [List.drop_eq_getElem_cons h, List.flatMap_cons]

theorem rd_enc {α : Type} {dec : List UInt8 → Option (α × List UInt8)} {z x : α} {e r l : List UInt8} (he : l = e ++ r) (h : dec (e ++ r) = some (x, r)) : rdOf dec z (some l) = (x, some r) := by
  rw [he]; exact rdOf_good h

end Go.Proofs.Ytioechdfghglhaa
