/- Merged: the program logic, plain laws and walks (each part's first row says what it is); no conditions of its own. -/
import Derived.Shelf.SlIter.Sorted
import Derived.Shelf.Slices.In.SortAlone
import Derived.Shelf.Slices.In.SortNone
import Derived.Shelf.Slices.CompactS
import Derived.Shelf.Strings.OnBuilder
import Derived.Test.YtipacoopapjdpaaProg
import Derived.RangeFuncLeaves
import Derived.RangeFuncBound
import Derived.Shelf.Abstract
import Derived.WalkKit
import Derived.OwnWalkIn
import Derived.TacticsInMore
import Derived.LoopNIn
import Derived.LoopIn
import Derived.Sort.EveryDepth
import Derived.Test.YtipacoopapjdpaaL2
import Derived.Test.YtipacoopapjdpaaL3

/- The shelf's contracts of the library's sort, of Compact and Join, laid at this program. -/
namespace Go.Proofs.Ytipacoopapjdpaa
open Go Go.RowKit Go.Shelf
set_option linter.unusedVariables false
def srtd_ren : Go.Shelf.Ren := ⟨fun n => if n = 6 then 62 else if n = 8 then 74 else if n = 9 then 75 else if n = 11 then 79 else 0, fun n => if n = 0 then 0 else if n = 24 then 38 else if n = 26 then 9 else if n = 28 then 95 else if n = 33 then 75 else 0, fun n =>  0⟩
theorem srtd_lays : SlLaysZ.n6 Try.prog srtd_ren :=
  { mixed := by kernel_rfl,
    f6 := ⟨"slices.Sorted[string]", by kernel_rfl, (Try.func62).trans (congrArg some (by kernel_rfl))⟩,
    f8 := ⟨"slices.Collect[string]", by kernel_rfl, (Try.func74).trans (congrArg some (by kernel_rfl))⟩,
    f11 := ⟨"slices.AppendSeq[[]string,string]", by kernel_rfl, (Try.func79).trans (congrArg some (by kernel_rfl))⟩,
    t0 := Try.underlying0,
    a0 := Try.isAgg0,
    z0 := Try.sizeOf0,
    v0 := Try.zeroValue0,
    t24 := Try.underlying38,
    a24 := Try.isAgg38,
    z24 := Try.sizeOf38,
    v24 := Try.zeroValue38,
    t26 := Try.underlying9,
    a26 := Try.isAgg9,
    z26 := Try.sizeOf9,
    v26 := Try.zeroValue9,
    t28 := Try.underlying95,
    a28 := Try.isAgg95,
    z28 := Try.sizeOf95,
    v28 := Try.zeroValue95,
    i26 := by kernel_rfl }
def sort_ren : Go.Shelf.Ren := ⟨fun n => if n = 125 then 81 else if n = 128 then 93 else if n = 129 then 94 else if n = 190 then 75 else if n = 258 then 80 else if n = 302 then 84 else if n = 303 then 85 else if n = 304 then 86 else if n = 305 then 87 else if n = 306 then 88 else if n = 307 then 89 else if n = 308 then 90 else if n = 309 then 91 else if n = 310 then 92 else if n = 329 then 96 else if n = 330 then 97 else if n = 333 then 95 else if n = 334 then 98 else if n = 335 then 99 else if n = 336 then 100 else if n = 344 then 101 else 0, fun n => if n = 0 then 0 else if n = 3 then 3 else if n = 4 then 4 else if n = 5 then 5 else if n = 9 then 9 else if n = 31 then 38 else if n = 46 then 92 else if n = 51 then 133 else if n = 53 then 62 else if n = 131 then 130 else if n = 182 then 124 else if n = 183 then 125 else if n = 218 then 135 else if n = 222 then 138 else if n = 228 then 140 else if n = 229 then 141 else 0, fun n =>  0⟩
theorem sort_lays : Lays.n190 Try.prog sort_ren :=
  { mixed := by kernel_rfl,
    f125 := (Try.func81).trans (congrArg some (by kernel_rfl)),
    f128 := (Try.func93).trans (congrArg some (by kernel_rfl)),
    f129 := (Try.func94).trans (congrArg some (by kernel_rfl)),
    f190 := (Try.func75).trans (congrArg some (by kernel_rfl)),
    f258 := (Try.func80).trans (congrArg some (by kernel_rfl)),
    f302 := (Try.func84).trans (congrArg some (by kernel_rfl)),
    f303 := (Try.func85).trans (congrArg some (by kernel_rfl)),
    f304 := (Try.func86).trans (congrArg some (by kernel_rfl)),
    f305 := (Try.func87).trans (congrArg some (by kernel_rfl)),
    f306 := (Try.func88).trans (congrArg some (by kernel_rfl)),
    f307 := (Try.func89).trans (congrArg some (by kernel_rfl)),
    f308 := (Try.func90).trans (congrArg some (by kernel_rfl)),
    f309 := (Try.func91).trans (congrArg some (by kernel_rfl)),
    f310 := (Try.func92).trans (congrArg some (by kernel_rfl)),
    f329 := (Try.func96).trans (congrArg some (by kernel_rfl)),
    f330 := (Try.func97).trans (congrArg some (by kernel_rfl)),
    f333 := (Try.func95).trans (congrArg some (by kernel_rfl)),
    f334 := (Try.func98).trans (congrArg some (by kernel_rfl)),
    f335 := (Try.func99).trans (congrArg some (by kernel_rfl)),
    f336 := (Try.func100).trans (congrArg some (by kernel_rfl)),
    f344 := (Try.func101).trans (congrArg some (by kernel_rfl)),
    t0 := Try.underlying0,
    a0 := Try.isAgg0,
    z0 := Try.sizeOf0,
    v0 := Try.zeroValue0,
    t3 := Try.underlying3,
    a3 := Try.isAgg3,
    z3 := Try.sizeOf3,
    v3 := Try.zeroValue3,
    t4 := Try.underlying4,
    a4 := Try.isAgg4,
    z4 := Try.sizeOf4,
    v4 := Try.zeroValue4,
    t5 := Try.underlying5,
    a5 := Try.isAgg5,
    z5 := Try.sizeOf5,
    v5 := Try.zeroValue5,
    t9 := Try.underlying9,
    a9 := Try.isAgg9,
    z9 := Try.sizeOf9,
    v9 := Try.zeroValue9,
    t31 := Try.underlying38,
    a31 := Try.isAgg38,
    z31 := Try.sizeOf38,
    v31 := Try.zeroValue38,
    t46 := Try.underlying92,
    a46 := Try.isAgg92,
    z46 := Try.sizeOf92,
    v46 := Try.zeroValue92,
    t51 := Try.underlying133,
    a51 := Try.isAgg133,
    z51 := Try.sizeOf133,
    v51 := Try.zeroValue133,
    t53 := Try.underlying62,
    a53 := Try.isAgg62,
    z53 := Try.sizeOf62,
    v53 := Try.zeroValue62,
    t131 := Try.underlying130,
    a131 := Try.isAgg130,
    z131 := Try.sizeOf130,
    v131 := Try.zeroValue130,
    t182 := Try.underlying124,
    a182 := Try.isAgg124,
    z182 := Try.sizeOf124,
    v182 := Try.zeroValue124,
    t183 := Try.underlying125,
    a183 := Try.isAgg125,
    z183 := Try.sizeOf125,
    v183 := Try.zeroValue125,
    t218 := Try.underlying135,
    a218 := Try.isAgg135,
    z218 := Try.sizeOf135,
    v218 := Try.zeroValue135,
    t222 := Try.underlying138,
    a222 := Try.isAgg138,
    z222 := Try.sizeOf138,
    v222 := Try.zeroValue138,
    t228 := Try.underlying140,
    a228 := Try.isAgg140,
    z228 := Try.sizeOf140,
    v228 := Try.zeroValue140,
    t229 := Try.underlying141,
    a229 := Try.isAgg141,
    z229 := Try.sizeOf141,
    v229 := Try.zeroValue141 }
def cmpct_ren : Go.Shelf.Ren := ⟨fun n => if n = 194 then 64 else 0, fun n => if n = 0 then 0 else if n = 3 then 3 else if n = 4 then 4 else if n = 9 then 9 else if n = 31 then 38 else 0, fun n =>  0⟩
theorem cmpct_lays : Lays.n194 Try.prog cmpct_ren :=
  { mixed := by kernel_rfl,
    f194 := (Try.func64).trans (congrArg some (by kernel_rfl)),
    t0 := Try.underlying0,
    a0 := Try.isAgg0,
    z0 := Try.sizeOf0,
    v0 := Try.zeroValue0,
    t3 := Try.underlying3,
    a3 := Try.isAgg3,
    z3 := Try.sizeOf3,
    v3 := Try.zeroValue3,
    t4 := Try.underlying4,
    a4 := Try.isAgg4,
    z4 := Try.sizeOf4,
    v4 := Try.zeroValue4,
    t9 := Try.underlying9,
    a9 := Try.isAgg9,
    z9 := Try.sizeOf9,
    v9 := Try.zeroValue9,
    t31 := Try.underlying38,
    a31 := Try.isAgg38,
    z31 := Try.sizeOf38,
    v31 := Try.zeroValue38 }
def join_ren : Go.Shelf.Ren := ⟨fun n => if n = 156 then 49 else if n = 165 then 67 else if n = 166 then 68 else if n = 169 then 69 else if n = 240 then 77 else if n = 241 then 78 else if n = 276 then 82 else if n = 277 then 83 else 0, fun n => if n = 0 then 0 else if n = 3 then 3 else if n = 4 then 4 else if n = 5 then 5 else if n = 9 then 9 else if n = 20 then 20 else if n = 31 then 38 else if n = 37 then 28 else if n = 70 then 100 else if n = 72 then 102 else if n = 75 then 105 else if n = 76 then 106 else if n = 80 then 63 else if n = 127 then 116 else if n = 164 then 120 else 0, fun n =>  0⟩
theorem join_lays : Lays.n156 Try.prog join_ren :=
  { mixed := by kernel_rfl,
    f156 := (Try.func49).trans (congrArg some (by kernel_rfl)),
    f165 := (Try.func67).trans (congrArg some (by kernel_rfl)),
    f166 := (Try.func68).trans (congrArg some (by kernel_rfl)),
    f169 := (Try.func69).trans (congrArg some (by kernel_rfl)),
    f240 := (Try.func77).trans (congrArg some (by kernel_rfl)),
    f241 := (Try.func78).trans (congrArg some (by kernel_rfl)),
    f276 := (Try.func82).trans (congrArg some (by kernel_rfl)),
    f277 := (Try.func83).trans (congrArg some (by kernel_rfl)),
    t0 := Try.underlying0,
    a0 := Try.isAgg0,
    z0 := Try.sizeOf0,
    v0 := Try.zeroValue0,
    t3 := Try.underlying3,
    a3 := Try.isAgg3,
    z3 := Try.sizeOf3,
    v3 := Try.zeroValue3,
    t4 := Try.underlying4,
    a4 := Try.isAgg4,
    z4 := Try.sizeOf4,
    v4 := Try.zeroValue4,
    t9 := Try.underlying9,
    a9 := Try.isAgg9,
    z9 := Try.sizeOf9,
    v9 := Try.zeroValue9,
    t20 := Try.underlying20,
    a20 := Try.isAgg20,
    z20 := Try.sizeOf20,
    v20 := Try.zeroValue20,
    t31 := Try.underlying38,
    a31 := Try.isAgg38,
    z31 := Try.sizeOf38,
    v31 := Try.zeroValue38,
    t37 := Try.underlying28,
    a37 := Try.isAgg28,
    z37 := Try.sizeOf28,
    v37 := Try.zeroValue28,
    t70 := Try.underlying100,
    a70 := Try.isAgg100,
    z70 := Try.sizeOf100,
    v70 := Try.zeroValue100,
    t72 := Try.underlying102,
    a72 := Try.isAgg102,
    z72 := Try.sizeOf102,
    v72 := Try.zeroValue102,
    t75 := Try.underlying105,
    a75 := Try.isAgg105,
    z75 := Try.sizeOf105,
    v75 := Try.zeroValue105,
    t76 := Try.underlying106,
    a76 := Try.isAgg106,
    z76 := Try.sizeOf106,
    v76 := Try.zeroValue106,
    t127 := Try.underlying116,
    a127 := Try.isAgg116,
    z127 := Try.sizeOf116,
    v127 := Try.zeroValue116,
    t164 := Try.underlying120,
    a164 := Try.isAgg120,
    z164 := Try.sizeOf120,
    v164 := Try.zeroValue120 }
theorem join_lays2 : Builder.Extra Try.prog join_ren :=
  { sizeBuilder := by kernel_rfl,
    liesBuilder := by kernel_rfl,
    t5 := Try.underlying5,
    a5 := Try.isAgg5,
    z5 := Try.sizeOf5,
    v5 := Try.zeroValue5,
    infoByte := by kernel_rfl,
    cellsByte := by kernel_rfl,
    sizeByte := by kernel_rfl,
    neB5 := by decide }
end Go.Proofs.Ytipacoopapjdpaa

/- slices.Sorted over slices.Values, at strings: the library's own iterator, walked here; the rest out of the kit's shelf. -/
namespace Go.Proofs.Ytipacoopapjdpaa
set_option linter.unusedVariables false
set_option linter.unusedSimpArgs false
open Go Go.RowKit Go.Maps Go.Sort Go.Shelf

attribute [local go_sem] Oper.semAt_some

set_option maxRecDepth 100000 in
set_option maxHeartbeats 2000000 in
/-- The iterator that slices.Values hands back: each string in turn, to a body that leaves alone what was there before. -/
theorem vals_in (F : Fence) (n : Nat) (hf : F.fn 76) (hro : F.round = none) (hn : 1 ≤ n) (l : Nat) (w0 : World) (bp : Addr) (a : Option Addr) (cap : Nat) (zs : List (List UInt8)) (hreach : zs.length * 16 ≤ 140737488351232)
    (J : List (List UInt8) → World → Prop) (hJ : ∀ pre W, J pre W → Below w0.heap.size w0 W)
    (hY : ∀ pre x W, J pre W → pre.length < zs.length → YieldAt F (n - 1) Try.prog l #[encStr x] W fun e W' => e = .returned (.bool true) ∧ J (pre ++ [x]) W')
    (W : World) (hbp : w0.cell? bp = some (.slice a zs.length cap)) (hc : ∀ j, j < zs.length → ∃ b off, a = some ⟨b, off, none⟩ ∧ w0.cell? ⟨b, off + j, none⟩ = some (encStr (zs[j]?.getD []))) (h0 : J [] W) :
    CallsIn F n Try.prog 76 #[.func (.yield l) #[] #[], .pointer (some bp)] W fun e W' => (∃ v, e = .returned v) ∧ J zs W' := by
  have hBs : W.cell? bp = some (.slice a zs.length cap) := ((hJ _ _ h0).cell (World.block_lt_of_cell? w0 bp hbp)).trans hbp
  obtain ⟨len, hlen⟩ : ∃ len, len = zs.length := ⟨_, rfl⟩
  rw [← hlen] at hBs hreach
  refine callsIn_of_wp Try.func76 rfl hf ?_ hro
  simp only [Try.ntmps76, List.size_toArray, List.length_cons, List.length_nil, Nat.reduceAdd, Nat.reduceSub, Array.replicate_succ, Array.replicate_zero, List.push_toArray, List.append_toArray, List.nil_append, List.cons_append]
  gi_wp2
  gi_loopw [7] (fun i wr => ∃ k : Nat, k ≤ len ∧ i = .int .i64 k ∧ J (zs.take k) wr)
    (fun i _ => len - (intOf i).toNat)
  case atStart => exact ⟨0, Nat.zero_le _, rfl, h0⟩
  case round =>
    obtain ⟨k, hk, rfl, hJs⟩ := hrel
    by_cases hlt : k < len
    · obtain ⟨b, off, rfl, hcx⟩ := hc k (by omega)
      obtain ⟨x, hx, hcx'⟩ : ∃ x, zs.take (k + 1) = zs.take k ++ [x] ∧ wr.cell? ⟨b, off + k, none⟩ = some (encStr x) :=
        ⟨zs[k]?.getD [], by rw [List.take_add_one, List.getElem?_eq_getElem (by omega)]; rfl, ((hJ _ _ hJs).cell (p := ⟨b, off + k, none⟩) (World.block_lt_of_cell? w0 ⟨b, off + k, none⟩ hcx)).trans hcx⟩
      clear hcx hc
      obtain ⟨fn, tmps, assign, body, hy, hR⟩ := hY _ x wr hJs (by rw [List.length_take]; omega)
      gi_wp2
      refine hR.mono ?_
      rintro e W3 ⟨rfl, hJ3⟩
      gi_wp2
      go_roundw
      case rel => exact ⟨k + 1, by omega, by simp, by rw [hx]; exact hJ3⟩
      case measure => simp [intOf]; omega
    · obtain rfl : k = len := by omega
      gi_wp2
      go_end0
      refine ⟨⟨_, rfl⟩, ?_⟩
      rw [hlen, List.take_length] at hJs
      exact hJs

theorem YieldAt.mono {F : Fence} {m : Nat} {P : Program} {l : Nat} {args : Array Value} {W : World} {R R' : Ending → World → Prop} (h : YieldAt F m P l args W R) (k : ∀ e W', R e W' → R' e W') : YieldAt F m P l args W R' :=
  let ⟨fn, tmps, assign, body, hy, hR⟩ := h
  ⟨fn, tmps, assign, body, hy, hR.mono k⟩

set_option maxRecDepth 100000 in
set_option maxHeartbeats 2000000 in
/-- slices.AppendSeq(nil, seq), where the iterator gives zs to whatever body leaves alone what was there before. -/
theorem appends_in {P : Program} {ρ : Ren} (L : SlLaysZ.n11 P ρ) (F : Fence) (n : Nat) (h11 : F.fn (ρ.f 11)) (hro : F.round = none) (hn : 2 ≤ n) (g : Nat) (lb : Array Value) (hFg : F.fn g) (eg : ∀ args w, (callFunc g args).run P w = .ok (.enter g args) w)
    (zs : List (List UInt8)) (hN : zs.length ≤ maxLen) (hNb : zs.length * 16 ≤ 140737488355328) (w : World)
    (hseq : ∀ (l : Nat) (J : List (List UInt8) → World → Prop) (W : World), (∀ pre W, J pre W → Below w.heap.size w W) →
      (∀ pre x W, J pre W → pre.length < zs.length → YieldAt F (n - 1 - 1) P l #[encStr x] W fun e W' => e = .returned (.bool true) ∧ J (pre ++ [x]) W') → J [] W →
      CallsIn F (n - 1) P g (#[.func (.yield l) #[] #[]] ++ lb) W fun e W' => (∃ v, e = .returned v) ∧ J zs W') :
    CallsIn F n P (ρ.f 11) #[.slice none 0 0, .func (.func g) #[] lb] w fun e w' => ∃ v : Value, e = .returned v ∧ w'.ownsRow w.heap.size (ρ.t 26) 1 v zs.length (zs.map encStr) ∧ Below w.heap.size w w' := by
  have h1 : 1 ≤ n := by omega
  have mixed := L.mixed; have t0 := L.t0; have a0 := L.a0; have z0 := L.z0; have v0 := L.v0; have t24 := L.t24; have a24 := L.a24; have z24 := L.z24; have v24 := L.v24; have t26 := L.t26; have a26 := L.a26; have z26 := L.z26; have v26 := L.v26; have t28 := L.t28; have a28 := L.a28; have z28 := L.z28; have v28 := L.v28
  have hne : ρ.t 24 ≠ ρ.t 26 := fun e => by have h := L.t24; rw [e, L.t26] at h; cases h
  have u0 := run_underlying L.t0; have u24 := run_underlying L.t24; have u26 := run_underlying L.t26; have u28 := run_underlying L.t28
  obtain ⟨_, _, FG⟩ := L.f11
  refine callsIn_of_wp_marks FG rfl h11 ?_ hro
  simp only [SlBodyZ.n11_ntmps ρ, List.size_toArray, List.length_cons, List.length_nil, Nat.reduceAdd, Nat.reduceSub, Array.replicate_succ, Array.replicate_zero, List.push_toArray, List.append_toArray, List.nil_append, List.cons_append]
  gi_wp2
  refine wpIn_rangeFunc ?_
  intro fn hfn
  rw [hro]
  obtain ⟨W0, hW0⟩ : ∃ W0, w.alloc (.cells #[.slice none 0 0] (ρ.t 24)) = W0 := ⟨_, rfl⟩
  have hs0 : W0.heap.size = w.heap.size + 1 := by rw [← hW0]; simp
  have hv0 : W0.heap[w.heap.size]? = some (.cells #[.slice none 0 0] (ρ.t 24) (0, 0)) := by rw [← hW0]; exact World.alloc_heap_new w _
  have hb0 : Below w.heap.size w W0 := by rw [← hW0]; exact (Below.refl _ w).alloc (Nat.le_refl _) _
  rw [hW0]
  obtain ⟨W1, hW1⟩ : ∃ W1, (W0.alloc (.deferred (some []))).alloc (.loop (AnyZ.apRec ρ fn (.func (.func g) #[] lb) w.heap.size W0.heap.size .ready none)) = W1 := ⟨_, rfl⟩
  have hold : ∀ k, k < W0.heap.size → W1.heap[k]? = W0.heap[k]? := fun k hk => by
    rw [← hW1]; exact (Below.heap_alloc _ _ k (by simp; omega)).trans (Below.heap_alloc _ _ k hk)
  have hb1 : Below w.heap.size w W1 := by rw [← hW1]; exact (hb0.alloc hb0.size _).alloc (by have := hb0.size; simp; omega) _
  have hs1 : W1.heap.size = W0.heap.size + 2 := by rw [← hW1]; simp
  have hM : AnyZ.ApAt ρ w fn (.func (.func g) #[] lb) w.heap.size (W0.heap.size + 1) W0.heap.size [] W1 :=
    ⟨⟨_, (hold w.heap.size (by omega)).trans hv0, ⟨rfl, .inl ⟨rfl, rfl⟩⟩, by simp⟩,
     by rw [← hW1]; have := World.alloc_heap_new (W0.alloc (.deferred (some []))) (.loop (AnyZ.apRec ρ fn (.func (.func g) #[] lb) w.heap.size W0.heap.size .ready none)); rwa [World.size_alloc] at this,
     by rw [← hW1]; exact (Below.heap_alloc _ _ _ (by simp)).trans (World.alloc_heap_new W0 _), hb1⟩
  refine ⟨W0.heap.size + 1, [{ target := .collected W0.heap.size, args := #[] }], W1, { target := .fn (.func g) lb, args := #[.func (.yield (W0.heap.size + 1)) #[] #[]] }, W1, g,
    #[.func (.yield (W0.heap.size + 1)) #[] #[]] ++ lb, W1, ?_, ?_, ?_, ?_, fun _ => h1, ?_⟩
  · rw [← hW1]; exact run_enterLoop_outer _ _ _ _ _
  · simp [resolve, go_sem]
  · intro f' hf'; simp [Target.leads] at hf'; subst hf'; exact hFg
  · simp [invoke, go_sem, eg]
  · refine (hseq (W0.heap.size + 1) (AnyZ.ApAt ρ w fn (.func (.func g) #[] lb) w.heap.size (W0.heap.size + 1) W0.heap.size) W1 (fun pre W h => h.below)
      (fun pre x W hJ hl => (AnyZ.apYield { L with } F (n - 1 - 1) w fn hfn _ w.heap.size (W0.heap.size + 1) W0.heap.size (by omega) (by omega) (by omega) (Nat.le_refl _) (by omega) zs.length hN hNb pre x W hJ hl).mono fun e W' h => ⟨h.1, h.2.1⟩) hM).mono ?_
    rintro e W2 ⟨⟨v0, rfl⟩, h2⟩
    obtain ⟨v, hv, hrow, hnil⟩ := h2.box
    have hend := run_endLoop (P := P) h2.L (by simp [AnyZ.apRec])
    obtain ⟨W3, hW3⟩ : ∃ W3, W2.putObj (W0.heap.size + 1) (.loop { AnyZ.apRec ρ fn (.func (.func g) #[] lb) w.heap.size W0.heap.size .ready none with state := .exhausted }) = W3 := ⟨_, rfl⟩
    rw [hW3] at hend
    have hg3 : W2.grownBy W3 (some (W0.heap.size + 1)) := by rw [← hW3]; exact grownBy_putObj_a _ _ _
    have hv3 : W3.heap[w.heap.size]? = some (.cells #[v] (ρ.t 24) (0, 0)) := by rw [← hW3]; exact (World.putObj_heap_other (by omega)).trans hv
    have hK3 : W3.heap[W0.heap.size]? = some (.deferred (some [])) := by rw [← hW3]; exact (World.putObj_heap_other (by omega)).trans h2.K
    have hrow3 := hrow.kept hg3 (ownsRow_ne_a hrow h2.L (fun cur e => by first | cases e | exact hne (Obj.cells.inj e).2.1))
    have hb3 : Below w.heap.size w W3 := h2.below.grown hg3 h2.below.size (fun k e => by cases e; omega)
    obtain ⟨hc3, hf3⟩ := cell_of_box_a hv3
    clear hW3
    refine ⟨none, W3, hend, ?_⟩
    gi_wp2
    rw [← hs0]
    refine ⟨by simp, .inl ⟨_, _, rfl, run_takeDeferred hK3, ?_⟩⟩
    exact ⟨_, results_tmp rfl _ _ _, v, rfl, hrow3.kept (grownBy_putObj_a _ _ _) (ownsRow_ne_a hrow3 hK3 (fun cur e => by first | cases e | exact hne (Obj.cells.inj e).2.1)), hb3.grown (grownBy_putObj_a _ _ _) hb3.size (fun k e => by cases e; omega)⟩

/-- .. at this program, over slices.Values. -/
theorem appends (w : World) (bp : Addr) (a : Option Addr) (cap : Nat) (zs : List (List UInt8)) (hreach : zs.length * 16 ≤ 140737488351232)
    (hbp : w.cell? bp = some (.slice a zs.length cap)) (hc : ∀ j, j < zs.length → ∃ b off, a = some ⟨b, off, none⟩ ∧ w.cell? ⟨b, off + j, none⟩ = some (encStr (zs[j]?.getD []))) :
    Calls Try.prog 79 #[.slice none 0 0, .func (.func 76) #[] #[.pointer (some bp)]] w fun e w' => ∃ v : Value, e = .returned v ∧ w'.ownsRow w.heap.size 9 1 v zs.length (zs.map encStr) ∧ Below w.heap.size w w' :=
  calls_of_every_depth fun D => appends_in (ρ := srtd_ren) { srtd_lays with } (Fence.list [79, 76] (some D)) 4 (by simp [Fence.list, srtd_ren]) rfl (by decide) 76 _ (by simp [Fence.list])
    (enters_of Try.func76 (by kernel_rfl) rfl) zs (by unfold maxLen; omega) (by omega) w
    (fun l J W hJ hY h0 => vals_in _ 3 (by simp [Fence.list]) rfl (by decide) l w bp a cap zs hreach J hJ hY W hbp hc h0)
end Go.Proofs.Ytipacoopapjdpaa

/- The library's sort, Compact and Join at strings, as contracts of the program logic. -/
namespace Go.Proofs.Ytipacoopapjdpaa
set_option linter.unusedVariables false
set_option linter.unusedSimpArgs false
open Go Go.RowKit SL Go.Sort Go.Shelf

set_option maxRecDepth 100000 in
set_option maxHeartbeats 1000000 in
theorem collects (w : World) (bp : Addr) (a : Option Addr) (cap : Nat) (zs : List (List UInt8)) (hreach : zs.length * 16 ≤ 140737488351232)
    (hbp : w.cell? bp = some (.slice a zs.length cap)) (hc : ∀ j, j < zs.length → ∃ b off, a = some ⟨b, off, none⟩ ∧ w.cell? ⟨b, off + j, none⟩ = some (encStr (zs[j]?.getD []))) :
    Calls Try.prog 74 #[.func (.func 76) #[] #[.pointer (some bp)]] w fun e w' => ∃ v : Value, e = .returned v ∧ w'.ownsRow w.heap.size 9 1 v zs.length (zs.map encStr) ∧ Below w.heap.size w w' := by
  go_enter Try.func74, Try.ntmps74
  go_wp2_with (go_at_call 79; refine (appends w bp a cap zs hreach hbp hc).mono ?_; rintro e w' ⟨v, rfl, hr, hb⟩)
  go_ret
  exact ⟨v, rfl, hr, hb⟩

def srows (l : List (List UInt8)) : List (List D) := (l.map strV).map rowOf
theorem srows_cons (s : List UInt8) (l : List (List UInt8)) : srows (s :: l) = [.val (.str s)] :: srows l := rfl
theorem srows_flat : ∀ l : List (List UInt8), (srows l).flatten = l.map fun s => D.val (.str s)
  | [] => rfl
  | s :: l => by rw [srows_cons, List.flatten_cons, srows_flat l]; rfl
theorem srows_get {l : List (List UInt8)} {zs : List D} {k : Nat} (hk : k < l.length) : (rowsD (srows l) zs)[k]? = some (.val (.str l[k])) := by
  rw [rowsD, srows_flat, List.getElem?_append_left (by simpa using hk), List.getElem?_map, List.getElem?_eq_getElem hk]; rfl
theorem srows_rest {l : List (List UInt8)} {zs : List D} {k : Nat} (hk : l.length ≤ k) : (rowsD (srows l) zs)[k]? = zs[k - l.length]? := by
  rw [rowsD, srows_flat, List.getElem?_append_right (by simpa using hk), List.length_map]
theorem srows_len {l : List (List UInt8)} {zs : List D} : (rowsD (srows l) zs).length = l.length + zs.length := by rw [rowsD, srows_flat]; simp
theorem srows_append (l m : List (List UInt8)) (zs : List D) : rowsD (srows (l ++ m)) zs = rowsD (srows l) ((m.map fun s => D.val (.str s)) ++ zs) := by simp [rowsD, srows_flat]

theorem encStr_of {s : ByteArray} {l : List UInt8} (h : s.data.toList = l) : Value.string s = encStr l := by
  subst h; rfl
theorem rep_encStr (C : Imm) (l : List UInt8) : RepD C (encStr l) (.val (.str l)) := by
  have := RepV.str (C := C) ⟨l.toArray⟩
  rw [show (⟨l.toArray⟩ : ByteArray).data.toList = l from rfl] at this
  exact .val _ _ this

/-- A new slice of the call's own. -/
theorem inv_ownsRow {G : Gh} {σ : List Chunk} {w w' : World} {e : TypeId} {v : Value} {l : List (List UInt8)} (hi : Inv G σ w) (hb : Below w.heap.size w w') (h : w'.ownsRow w.heap.size e 1 v l.length (l.map encStr)) :
    ∃ W : WL 1 l.length, Inv G (W.k (srows l) :: σ) w' ∧ RepD G.C v W.d := by
  have hi' := hi.of_below hb
  rcases h.2 with ⟨rfl, h0⟩ | ⟨g, cap, cur, rfl, hbase, hg, h1, h2, h3, h4⟩
  · exact ⟨⟨.nil, h0⟩, dummy_inv hi', .fix none [] (.empty _ _)⟩
  · refine ⟨⟨.blk g cap (List.replicate (cap - l.length) .junk), ⟨h1, by simp⟩⟩, ?_, .sl _ _ _ _⟩
    refine hi'.add ⟨cur, e, (0, 0), hg, fun o ho hh => by simp at hh, by rw [srows_len]; simp; omega, fun k hk => ?_⟩ (fun b eb x hx ex => ?_) (fun b o hbo => ?_) (fun b eb => ?_)
    · have hk' : k < cur.size := by rw [srows_len] at hk; simp at hk; omega
      have key : RepD G.C (cur.getD k undef) ((rowsD (srows l) (List.replicate (cap - l.length) .junk))[k]?.getD .junk) := by
        by_cases c : k < l.length
        · rw [srows_get c]
          have h5 : (cur.toList.take (l.length * 1))[k]? = (l.map encStr)[k]? := by rw [h4]
          rw [List.getElem?_take_of_lt (by omega), List.getElem?_map, List.getElem?_eq_getElem c, Array.getElem?_toList] at h5
          rw [Array.getD_eq_getD_getElem?, h5]
          exact rep_encStr _ _
        · rw [srows_rest (by omega), List.getElem?_replicate]
          split <;> exact .junk _
      rwa [List.getElem?_eq_getElem hk] at key
    · obtain rfl : g = b := Option.some.inj eb
      have := Chunk.holds_lt (hi.holds x hx) ex
      omega
    · cases ec : G.C b o with
      | none => rfl
      | some v =>
        have h6 := World.block_lt_of_cell? w ⟨b, o, none⟩ (hi.agree _ _ _ ec)
        have h7 : b = g := hbo
        simp at h6
        omega
    · obtain rfl : g = b := Option.some.inj eb
      have := hi.below.size
      omega

/-- slices.Collect over slices.Values. -/
theorem collect_ok (ss : List (List UInt8)) (σ : List Chunk) (hreach : ss.length ≤ 1000000) :
    FSpec Try.prog 74 [.func 76 [.rp [.list (ss.map strV)]]] σ (fun d σ' => ∃ W : WL 1 ss.length, d = W.d ∧ σ' = W.k (srows ss) :: σ) := fun G vs w hi hr => by
  obtain ⟨hsz, hv⟩ := hr
  have h0 := hv 0 (by simp)
  obtain ⟨b, f, sv, hvs, hC, hrep⟩ : ∃ (b f : Nat) (sv : Value), vs = #[.func (.func 76) #[] #[.pointer (some ⟨b, f, none⟩)]] ∧ G.C b f = some sv ∧ RepV G.C sv (.list (ss.map strV)) := by
    generalize hx : vs.getD 0 undef = x at h0
    cases (show RepD G.C x (.func 76 [.rp [.list (ss.map strV)]]) from h0) with
    | func _ us _ hu1 hu2 =>
      obtain ⟨b, f, g, hp, h1, h2⟩ := rep_rp (hu2 0 (by simp))
      refine ⟨b, f, g 0, ?_, h1 0 (by simp), h2 0 (by simp)⟩
      have hus : us = #[.pointer (some ⟨b, f, none⟩)] := by
        apply Array.ext
        · exact hu1
        · intro i hi1 hi2
          have : i = 0 := by simp at hi2; omega
          subst this
          simpa [Array.getD_eq_getD_getElem?, hi1] using hp
      subst hus
      apply Array.ext
      · exact hsz
      · intro i hi1 hi2
        have : i = 0 := by simp at hi2; omega
        subst this
        simpa [Array.getD_eq_getD_getElem?, hi1] using hx
  subst hvs
  obtain ⟨a, cap, hsv, hcells⟩ : ∃ (a : Option Addr) (cap : Nat), sv = .slice a ss.length cap ∧ ∀ j, j < ss.length → ∃ b off, a = some ⟨b, off, none⟩ ∧ w.cell? ⟨b, off + j, none⟩ = some (encStr (ss[j]?.getD [])) := by
    generalize hy : ss.map strV = ys at hrep
    have hl : ss.length = ys.length := by rw [← hy, List.length_map]
    cases hrep with
    | empty a c => exact ⟨a, c, by rw [hl]; rfl, fun j hj => absurd hj (by simp at hl; simp [hl])⟩
    | list b o c sz xs vs hc hsz hC hv =>
      refine ⟨_, c, by rw [hl], fun j hj => ⟨b, o, rfl, ?_⟩⟩
      have hj' : j < ys.length := by omega
      have hyj : ys[j] = .str ss[j] := by simp only [← hy]; simp [strV]
      have h1 : sz = 1 := by rw [← hsz j hj', hyj]; rfl
      subst h1
      have h2 := hC j 0 hj' (by omega)
      have h3 := hv j 0 hj' (by rw [hyj]; exact Nat.one_pos)
      have h4 : (ys[j]).cells[0]'(by rw [hyj]; exact Nat.one_pos) = .str ss[j] := by simp [hyj, V.cells]
      rw [h4] at h3
      obtain ⟨s, hs, hs'⟩ := rep_str (.val _ _ h3)
      have h5 := hi.agree _ _ _ h2
      rw [show o + j * 1 + 0 = o + j by omega, hs, encStr_of hs'] at h5
      rw [List.getElem?_eq_getElem hj]
      exact h5
  subst hsv
  refine (collects w ⟨b, f, none⟩ a cap ss (by omega) (hi.agree _ _ _ hC) hcells).mono fun e w' he => ?_
  obtain ⟨v, rfl, hrow, hb⟩ := he
  obtain ⟨W, hW, hd⟩ := inv_ownsRow hi hb hrow
  exact ⟨G, _, _, G.le_refl, hW, hd, W, rfl, rfl⟩

/-- The cells of a slice that one alone holds, written anew by the library. -/
theorem inv_putRow {G : Gh} {σ : List Chunk} {w : World} {g n : Nat} {os : Array Obj} {l l' : List (List UInt8)} {zs : List D} (hi : Inv G (.blk g (rowsD (srows l) zs) :: σ) w) (hl : l'.length = l.length) :
    Inv G (.blk g (rowsD (srows l') zs) :: σ) (grow (putRow encStr (Sort.ahead w n) g 0 l'.toArray) os) := by
  obtain ⟨cs, ty, fz, hg, h1, h2, h3⟩ := (show (Chunk.blk g (rowsD (srows l) zs)).holds G.C w from hi.holds _ (List.mem_cons_self ..))
  have hlen : cs.size = l.length + zs.length := by rw [h2, srows_len]
  have h0 : Inv G (.blk g (rowsD (srows l') zs) :: σ) (putRow encStr (Sort.ahead w n) g 0 l'.toArray) := by
    have hnew := heap_sorted (n := n) (os := #[]) l'.toArray hg
    rw [grow_empty] at hnew
    refine hi.change (b := g) rfl (fun x hx => (Option.some.inj hx).symm) G.le_refl (fun _ _ _ h => .inl h) rfl rfl rfl (by simp [putRow, mapBlock, Sort.ahead]) (fun k hk => ?_) (fun o v hv => ?_) ⟨_, ty, fz, hnew, ?_, ?_, fun k hk => ?_⟩ (fun x o h => hi.apart (.blk g (rowsD (srows l) zs)) (List.mem_cons_self ..) x o h)
    · have : g ≠ k := fun e => hk e.symm
      simp [putRow, mapBlock, Sort.ahead, Array.getElem?_modify, this]
    · have := hi.apart _ (List.mem_cons_self ..) g o (show g = g from rfl)
      rw [this] at hv; cases hv
    · simpa [putCells] using h1
    · rw [srows_len, hl]; simpa [putCells] using hlen
    · have hk' : k < cs.size := by rw [srows_len, hl] at hk; omega
      have key : RepD G.C ((putCells encStr 0 l'.toArray cs).getD k undef) ((rowsD (srows l') zs)[k]?.getD .junk) := by
        by_cases c : k < l'.length
        · rw [srows_get c]
          have : (putCells encStr 0 l'.toArray cs).getD k undef = encStr l'[k] := by
            rw [Array.getD_eq_getD_getElem?]
            simp [putCells, hk', c]
          rw [this]
          exact rep_encStr _ _
        · have e1 : (putCells encStr 0 l'.toArray cs).getD k undef = cs.getD k undef := by
            rw [Array.getD_eq_getD_getElem?, Array.getD_eq_getD_getElem?]
            simp [putCells, hk', c]
          have hk2 : k < (rowsD (srows l) zs).length := by rw [srows_len]; omega
          have := h3 k hk2
          rw [e1, srows_rest (by omega), hl, ← srows_rest (by omega), List.getElem?_eq_getElem hk2]
          exact this
      rwa [List.getElem?_eq_getElem hk] at key
  exact h0.of_below (Below.grown (row := none) (Below.refl _ _) ⟨rfl, rfl, rfl, by simp [grow], fun k hk _ => heap_grow_old _ _ hk⟩ (Nat.le_refl _) (fun k e => by cases e))

theorem holds_rows {G : Gh} {σ : List Chunk} {w : World} {g : Nat} {l : List (List UInt8)} {zs : List D} (hi : Inv G (.blk g (rowsD (srows l) zs) :: σ) w) : Holds encStr w g 0 l.toArray ∧ g < w.heap.size := by
  obtain ⟨cs, ty, fz, hg, h1, h2, h3⟩ := (show (Chunk.blk g (rowsD (srows l) zs)).holds G.C w from hi.holds _ (List.mem_cons_self ..))
  refine ⟨fun j hj => ?_, lt_of_heap hg⟩
  have hj' : j < l.length := by simpa using hj
  have hlen : cs.size = l.length + zs.length := by rw [h2, srows_len]
  have hj2 : j < (rowsD (srows l) zs).length := by rw [srows_len]; omega
  have h5 := h3 j hj2
  have h6 : (rowsD (srows l) zs)[j] = .val (.str l[j]) := by
    have := srows_get (zs := zs) hj'
    rw [List.getElem?_eq_getElem hj2] at this
    exact Option.some.inj this
  rw [h6] at h5
  obtain ⟨s, hs, hs'⟩ := rep_str h5
  have hjc : j < cs.size := by omega
  constructor
  · have : cs[j]? = some (encStr l[j]) := by
      rw [Array.getD_eq_getD_getElem?, Array.getElem?_eq_getElem hjc] at hs
      rw [Array.getElem?_eq_getElem hjc, ← encStr_of hs', ← hs]; rfl
    simp only [World.cell?, hg, Nat.zero_add]
    simp [this, hj']
  · simp only [World.frozen?, hg, Nat.zero_add]
    have := h1 j hjc
    simp; omega

def sortL (l : List (List UInt8)) : List (List UInt8) := l.mergeSort fun x y => decide (x ≤ y)
theorem sortL_len (l : List (List UInt8)) : (sortL l).length = l.length := by simp [sortL]

theorem arg1 {C : Imm} {vs : Array Value} {d : D} (h : RepDs C vs [d]) : ∃ v, vs = #[v] ∧ RepD C v d := by
  obtain ⟨hsz, hv⟩ := h
  have h0 := hv 0 (by simp)
  refine ⟨vs.getD 0 undef, ?_, h0⟩
  apply Array.ext
  · exact hsz
  · intro i hi1 hi2
    have : i = 0 := by simp at hi2; omega
    subst this
    simp [Array.getD_eq_getD_getElem?, hi1]

/-- slices.Sort of strings that one alone holds. -/
theorem sort_ok (l : List (List UInt8)) (W : WL 1 l.length) (σ : List Chunk) (hl : l.length ≤ 1000000) :
    FSpec Try.prog 75 [W.d] (W.k (srows l) :: σ) (fun d σ' => d = .tup [] ∧ ∃ W' : WL 1 (sortL l).length, W.d = W'.d ∧ σ' = W'.k (srows (sortL l)) :: σ) := fun G vs w hi hr => by
  obtain ⟨v, rfl, h0⟩ := arg1 hr
  obtain ⟨ws, ok⟩ := W
  cases ws with
  | nil =>
    have hn : l = [] := List.eq_nil_of_length_eq_zero ok
    subst hn
    obtain ⟨a, rfl⟩ : ∃ a, v = .slice a 0 0 := by
      cases (show RepD G.C v (.fix []) from h0) with
      | fix a _ _ => exact ⟨a, rfl⟩
    refine (calls_of_every_depth fun D => AnyS.slices_Sort_string_none_alone sort_lays D a 0 w).mono fun e w' he => ?_
    obtain ⟨rfl, rfl⟩ := he
    exact ⟨G, _, _, G.le_refl, hi, .tup #[] [] rfl (fun k hk => absurd hk (by simp)), rfl, ⟨.nil, sortL_len []⟩, rfl, rfl⟩
  | blk g c zs =>
    have hv := rep_sl (show RepD G.C v (.sl g 0 l.length c) from h0)
    subst hv
    have hi' : Inv G (.blk g (rowsD (srows l) zs) :: σ) w := hi
    obtain ⟨hH, hlt⟩ := holds_rows hi'
    refine (calls_of_every_depth fun D => AnyS.slices_Sort_string_alone sort_lays D g 0 c l w hH hlt (by omega)).mono fun e w' he => ?_
    obtain ⟨rfl, n, os, rfl⟩ := he
    refine ⟨G, _, _, G.le_refl, inv_putRow hi' (sortL_len l), .tup #[] [] rfl (fun k hk => absurd hk (by simp)), rfl, ⟨.blk g c zs, by rw [sortL_len]; exact ok⟩, ?_, rfl⟩
    show D.sl g 0 l.length c = D.sl g 0 (sortL l).length c
    rw [sortL_len]

def compactL (l : List (List UInt8)) : List (List UInt8) := Lib.compact l

theorem compactL_len (l : List (List UInt8)) : (compactL l).length ≤ l.length := by
  simp only [compactL, Lib.compact, Lib.compactUpTo, List.length_map]
  exact Nat.le_trans (List.length_filter_le _ _) (by simp)

/-- slices.Compact of strings that one alone holds. -/
theorem compact_ok (l : List (List UInt8)) (W : WL 1 l.length) (σ : List Chunk) (hl : l.length ≤ 1000000) :
    FSpec Try.prog 64 [W.d] (W.k (srows l) :: σ) (fun d σ' => ∃ W' : WL 1 (compactL l).length, d = W'.d ∧ σ' = W'.k (srows (compactL l)) :: σ) := fun G vs w hi hr => by
  obtain ⟨v, rfl, h0⟩ := arg1 hr
  obtain ⟨ws, ok⟩ := W
  cases ws with
  | nil =>
    have hn : l = [] := List.eq_nil_of_length_eq_zero ok
    subst hn
    obtain ⟨a, rfl⟩ : ∃ a, v = .slice a 0 0 := by
      cases (show RepD G.C v (.fix []) from h0) with
      | fix a _ _ => exact ⟨a, rfl⟩
    refine (Any.slices_Compact_string_empty cmpct_lays a 0 w).mono fun e w' he => ?_
    obtain ⟨rfl, rfl⟩ := he
    exact ⟨G, _, _, G.le_refl, hi, h0, ⟨.nil, rfl⟩, rfl, rfl⟩
  | blk g c zs =>
    have hv := rep_sl (show RepD G.C v (.sl g 0 l.length c) from h0)
    subst hv
    have hi' : Inv G (.blk g (rowsD (srows l) zs) :: σ) w := hi
    obtain ⟨hok1, hok2⟩ : l.length ≤ c ∧ zs.length = (c - l.length) * 1 := ok
    obtain ⟨hH, hlt⟩ := holds_rows hi'
    refine (Any.slices_Compact_string cmpct_lays g 0 c l w hH (by omega) hok1).mono fun e w' he => ?_
    obtain ⟨rfl, n, rfl⟩ := he
    have hcl := compactL_len l
    have hp := inv_putRow (n := n) (os := #[]) (l' := compactL l ++ List.replicate (l.length - (compactL l).length) []) hi' (by simp; omega)
    rw [grow_empty, srows_append] at hp
    exact ⟨G, _, _, G.le_refl, hp, .sl _ _ _ _, ⟨.blk g c _, ⟨by omega, by simp; omega⟩⟩, rfl, rfl⟩

/-- A result that one alone holds, made immutable. -/
theorem spec_freeze {P : Program} {f : FuncId} {ds : List D} {σ0 σ : List Chunk} {n : Nat} {ys : List V} (h : FSpec P f ds σ0 (fun d σ' => ∃ W : WL 1 n, d = W.d ∧ σ' = W.k (ys.map rowOf) :: σ)) (hn : ys.length = n) (hsz : ∀ y ∈ ys, y.cells.length = 1) :
    FSpec P f ds σ0 (fun d σ' => d = .val (.list ys) ∧ σ' = σ) := fun G vs w hi hr =>
  (h G vs w hi hr).mono fun e w' he => by
    cases e with
    | returned v =>
      obtain ⟨G', d, σ', h1, h2, h3, W, rfl, rfl⟩ := he
      obtain ⟨G2, hle, hi2, hv⟩ := wl_freeze h2 hn hsz
      exact ⟨G2, _, _, h1.trans hle, hi2, hv v (h3.mono hle.2), rfl, rfl⟩
    | panicked ch => obtain ⟨G', σ', h1, h2, h3⟩ := he; exact h3.elim
    | outgrown => exact he

theorem compactv_ok (l : List (List UInt8)) (W : WL 1 l.length) (σ : List Chunk) (hl : l.length ≤ 1000000) :
    FSpec Try.prog 64 [W.d] (W.k (srows l) :: σ) (fun d σ' => d = .val (.list ((compactL l).map strV)) ∧ σ' = σ) :=
  spec_freeze (compact_ok l W σ hl) (by simp) (fun y hy => by obtain ⟨s, _, rfl⟩ := List.mem_map.mp hy; rfl)

/-- What a list of texts in immutable memory looks like. -/
theorem rep_strs {G : Gh} {σ : List Chunk} {w : World} (hi : Inv G σ w) {sv : Value} {ss : List (List UInt8)} (hrep : RepV G.C sv (.list (ss.map strV))) :
    ∃ (a : Option Addr) (cap : Nat), sv = .slice a ss.length cap ∧ ss.length ≤ cap ∧ ∀ j, j < ss.length → ∃ b off, a = some ⟨b, off, none⟩ ∧ w.cell? ⟨b, off + j, none⟩ = some (encStr (ss[j]?.getD [])) := by
  generalize hy : ss.map strV = ys at hrep
  have hl : ss.length = ys.length := by rw [← hy, List.length_map]
  cases hrep with
  | empty a c => exact ⟨a, c, by rw [hl]; rfl, by simp at hl; simp [hl], fun j hj => absurd hj (by simp at hl; simp [hl])⟩
  | list b o c sz xs vs hc hsz hC hv =>
    refine ⟨_, c, by rw [hl], by omega, fun j hj => ⟨b, o, rfl, ?_⟩⟩
    have hj' : j < ys.length := by omega
    have hyj : ys[j] = .str ss[j] := by simp only [← hy]; simp [strV]
    have h1 : sz = 1 := by rw [← hsz j hj', hyj]; rfl
    subst h1
    have h2 := hC j 0 hj' (by omega)
    have h3 := hv j 0 hj' (by rw [hyj]; exact Nat.one_pos)
    have h4 : (ys[j]).cells[0]'(by rw [hyj]; exact Nat.one_pos) = .str ss[j] := by simp [hyj, V.cells]
    rw [h4] at h3
    obtain ⟨s, hs, hs'⟩ := rep_str (.val _ _ h3)
    have h5 := hi.agree _ _ _ h2
    rw [show o + j * 1 + 0 = o + j by omega, hs, encStr_of hs'] at h5
    rw [List.getElem?_eq_getElem hj]
    exact h5

/-- strings.Join. -/
theorem join_ok (ss : List (List UInt8)) (sep : List UInt8) (σ : List Chunk) (hn : ss.length ≤ 1000000) (hl : (Lib.join ss sep).length ≤ 100000000) :
    FSpec Try.prog 49 [.val (.list (ss.map strV)), .val (.str sep)] σ (fun d σ' => d = .val (.str (Lib.join ss sep)) ∧ σ' = σ) := fun G vs w hi hr => by
  obtain ⟨hsz, hv⟩ := hr
  have h0 := hv 0 (by simp)
  have h1 := hv 1 (by simp)
  obtain ⟨t, ht, ht'⟩ := rep_str h1
  obtain ⟨a, cap, hsv, hcap, hcells⟩ : ∃ (a : Option Addr) (cap : Nat), vs.getD 0 undef = .slice a ss.length cap ∧ ss.length ≤ cap ∧ ∀ j, j < ss.length → ∃ b off, a = some ⟨b, off, none⟩ ∧ w.cell? ⟨b, off + j, none⟩ = some (encStr (ss[j]?.getD [])) := by
    generalize vs.getD 0 undef = x at h0
    cases (show RepD G.C x (.val (.list (ss.map strV))) from h0) with
    | val _ _ h => exact rep_strs hi h
  have hvs : vs = #[.slice a ss.length cap, .string t] := by
    apply Array.ext
    · exact hsz
    · intro i hi1 hi2
      have : i = 0 ∨ i = 1 := by simp at hi2; omega
      rcases this with rfl | rfl
      · simpa [Array.getD_eq_getD_getElem?, hi1] using hsv
      · simpa [Array.getD_eq_getD_getElem?, hi1] using ht
  subst hvs
  have hmap : (ss.map fun s => (⟨s.toArray⟩ : ByteArray)).map (fun b => b.data.toList) = ss := by simp [List.map_map, Function.comp_def]
  cases hss : ss with
  | nil =>
    subst hss
    refine (Any.strings_Join_none join_lays join_lays2 a cap t w).mono fun e w' he => ?_
    obtain ⟨rfl, rfl⟩ := he
    exact ⟨G, _, _, G.le_refl, hi, .val _ _ (.str ⟨#[]⟩), rfl, rfl⟩
  | cons s0 ss0 =>
    rw [← hss]
    have hpos : 0 < ss.length := by rw [hss]; simp
    obtain ⟨b, off, rfl, hc0⟩ := hcells 0 hpos
    have hbk := World.block_lt_of_cell? w ⟨b, off + 0, none⟩ hc0
    have hc := Any.strings_Join join_lays join_lays2 b off cap (ss.map fun s => (⟨s.toArray⟩ : ByteArray)) t w (fun j x hx => by
        rw [List.getElem?_map] at hx
        obtain ⟨s, hs, rfl⟩ := Option.map_eq_some_iff.mp hx
        have hj := (List.getElem?_eq_some_iff.mp hs).1
        obtain ⟨b', off', e, hcj⟩ := hcells j hj
        cases e
        rw [hs] at hcj
        exact hcj) hbk (by rw [List.length_map]; omega) (by rw [List.length_map]; exact hcap) (by rw [hmap, ht']; omega)
    rw [List.length_map, hmap, ht'] at hc
    refine hc.mono fun e w' he => ?_
    obtain ⟨rfl, hb⟩ := he
    exact ⟨G, _, _, G.le_refl, hi.of_below hb, .val _ _ (.str ⟨(Lib.join ss sep).toArray⟩), rfl, rfl⟩

end Go.Proofs.Ytipacoopapjdpaa
