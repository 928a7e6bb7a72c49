/- Heaps (package heap): one of a number of a heap that nobody made; how many words are given: contracts. -/
import Derived.RangeFuncNested
import Derived.RangeFuncBound
import Derived.RangeFuncCalls
import Derived.RangeFuncLeaves
import Derived.RangeFuncBox
import Derived.Shelf.Abstract
import Derived.Shelf.RegionOpen
import Derived.WalkKit
import Derived.OwnWalkIn
import Derived.TacticsInMore
import Derived.LoopNIn
import Derived.LoopIn
import Derived.Test.YthllfeogchbihabHeapA
namespace Go.Proofs.Ythllfeogchbihab
open Go.RowKit Go.Shelf
set_option linter.unusedSimpArgs false
set_option linter.unusedVariables false
attribute [local go_sem] Oper.semAt_some

set_option maxRecDepth 100000 in
set_option maxHeartbeats 2000000 in
theorem arrayNone_in (F : Fence) (n : Nat) (h21 : F.fn 21) (h22 : F.fn 22) (h25 : F.fn 25) (hro : F.round = none) (hn : 3 ≤ n) (p : Option Addr) (ref : Int) (w : World) (hu : Unmade w.heap.size w p) :
    CallsIn F n Try.prog 21 #[.pointer p, .int .i64 ref] w fun e W' => e = .returned (.tuple #[.slice none 0 0, .bool false]) ∧ Below w.heap.size w W' := by
  have hn1 : 1 ≤ n := by omega
  refine callsIn_of_wp_marks Try.func21 rfl h21 ?_ hro
  simp only [Try.ntmps21, List.size_toArray, List.length_cons, List.length_nil, Nat.reduceAdd, Nat.reduceSub, Array.replicate_succ, Array.replicate_zero, List.push_toArray, List.append_toArray, List.nil_append, List.cons_append]
  gi_wp2_with (gi_at_call 22; refine (all_in F (n - 1) h22 hro _ _).mono ?_; rintro e w' ⟨rfl, rfl⟩)
  obtain ⟨W0, hW0⟩ : ∃ W0, (((w.alloc (.cells #[.int .i64 ref] 2)).alloc (.cells #[.slice none 0 0] 25)).alloc (.cells #[.bool false] 4)).alloc (.cells #[.pointer p] 24) = W0 := ⟨_, rfl⟩
  have z0 : W0.heap.size = w.heap.size + 4 := by rw [← hW0]; simp
  have d1 : W0.cell? ⟨w.heap.size + 1, 0, none⟩ = some (.slice none 0 0) := by rw [← hW0]; simp [go_sem]
  have d2 : W0.cell? ⟨w.heap.size + 1 + 1, 0, none⟩ = some (.bool false) := by rw [← hW0]; simp [go_sem]
  have d3 : W0.cell? ⟨w.heap.size + 1 + 1 + 1, 0, none⟩ = some (.pointer p) := by rw [← hW0]; simp [go_sem]
  have f1 : W0.frozen? ⟨w.heap.size + 1, 0, none⟩ = false := by rw [← hW0]; simp [go_sem]
  have f2 : W0.frozen? ⟨w.heap.size + 1 + 1, 0, none⟩ = false := by rw [← hW0]; simp [go_sem]
  have hB0 : Below w.heap.size w W0 := by rw [← hW0]; go_grown
  rw [hW0]
  clear hW0
  refine wpIn_rangeFunc_ownG hro hn1 (gf := 25) (lb := #[.pointer (some ⟨w.heap.size + 1 + 1 + 1, 0, none⟩)]) rfl h25 (enters_of Try.func25 (by kernel_rfl) rfl)
    (none_stops F (n - 1) h25 hro (w.heap.size + 1 + 1 + 1) w.heap.size p W0 (by omega) (by omega) d3 (hu.below hB0)) KB.trans (KB.put (by omega) (by omega)) (Below.refl _ _) (fun _ => rfl)
    (fun pre W => (W.cell? ⟨w.heap.size + 1, 0, none⟩ = some (.slice none 0 0) ∧ W.frozen? ⟨w.heap.size + 1, 0, none⟩ = false ∧ W.cell? ⟨w.heap.size + 1 + 1, 0, none⟩ = some (.bool false) ∧ W.frozen? ⟨w.heap.size + 1 + 1, 0, none⟩ = false) ∧ Below w.heap.size w W)
    (fun c pre W => False)
    (OwnFrom.and (Own.from (fun s A B row hs hg hr => ⟨cell_kept hs.1 hg hr, (frozen_kept hs.1 hg hr).trans hs.2.1, cell_kept hs.2.2.1 hg hr, (frozen_kept hs.2.2.1 hg hr).trans hs.2.2.2⟩) _) (ownFrom_below (Nat.le_refl _) (by omega)))
    (fun c => fun _ _ _ _ hs _ _ => hs)
    ⟨⟨d1, f1, d2, f2⟩, hB0⟩
    (fun x => { tmps := #[.pointer p, .int .i64 ref, undef, .pointer (some ⟨w.heap.size, 0, none⟩), .pointer (some ⟨w.heap.size + 1, 0, none⟩), .pointer (some ⟨w.heap.size + 1 + 1, 0, none⟩), .int .i64 (x.1 : Int), .slice x.2.1 x.2.2.1 x.2.2.2, .pointer p, .func (.func 25) #[] #[.pointer (some ⟨w.heap.size + 1 + 1 + 1, 0, none⟩)], .int .i64 (x.1 : Int), .slice x.2.1 x.2.2.1 x.2.2.2, undef, undef, undef, undef], defers := [] }) ?assign ?body ?done ?stop
  case assign =>
    intro l x W K hK
    gi_wp2
    exact hK
  case body =>
    rintro l pre x W _ hlen
    exact absurd hlen (by omega)
  case done =>
    rintro D ys W hD rfl ⟨⟨c1, g1, c2, g2⟩, hB⟩ hK
    gi_wp2
    have hK' := ((KeepsOthers.setCell W ⟨w.heap.size + 1, 0, none⟩ (.slice none 0 0)).trans (KeepsOthers.setCell _ ⟨w.heap.size + 1 + 1, 0, none⟩ (.bool false))).same D _ hK rfl
    refine ⟨by simp, .inl ⟨_, _, rfl, run_takeDeferred hK', ?_⟩⟩
    have k1 : ((W.setCell ⟨w.heap.size + 1, 0, none⟩ (.slice none 0 0)).setCell ⟨w.heap.size + 1 + 1, 0, none⟩ (.bool false)).cell? ⟨w.heap.size + 1, 0, none⟩ = some (.slice none 0 0) := by
      rw [World.cell?_setCell_other _ _ _ _ (by intro e'; injection e' with e1 e2; omega)]
      exact World.cell?_setCell_same' _ _ _ (by rw [c1]; rfl)
    have k2 : ((W.setCell ⟨w.heap.size + 1, 0, none⟩ (.slice none 0 0)).setCell ⟨w.heap.size + 1 + 1, 0, none⟩ (.bool false)).cell? ⟨w.heap.size + 1 + 1, 0, none⟩ = some (.bool false) :=
      World.cell?_setCell_same' _ _ _ (by rw [World.cell?_setCell_other _ _ _ _ (by intro e'; injection e' with e1 e2; omega), c2]; rfl)
    have hc4 := cell_kept k1 (grownBy_putObj' _ D (.deferred none)) (fun r e => by cases e; exact ⟨_, hK', rfl⟩)
    have hc5 := cell_kept k2 (grownBy_putObj' _ D (.deferred none)) (fun r e => by cases e; exact ⟨_, hK', rfl⟩)
    refine ⟨.tuple #[.slice none 0 0, .bool false], ?_, rfl, ((hB.setCell (p := ⟨w.heap.size + 1, 0, none⟩) (by show w.heap.size ≤ w.heap.size + 1; omega) _).setCell (p := ⟨w.heap.size + 1 + 1, 0, none⟩) (by show w.heap.size ≤ w.heap.size + 1 + 1; omega) _).trans (belowK_b (w := w) (Nat.le_refl _) _ D _ _ (by omega) hK' rfl rfl)⟩
    simp [results, Try.f21, go_sem, hc4, hc5]
  case stop =>
    rintro D c pre W hD _ h _
    exact h.elim

/-- How many words arrays have: as the program adds them up. -/
def sumW (l : List (Nat × SV)) : Int := l.foldl (fun s p => wrap64 (s + (p.2.2.1 : Int))) 0
theorem sumW_snoc (pre : List (Nat × SV)) (x : Nat × SV) : sumW (pre ++ [x]) = wrap64 (sumW pre + (x.2.2.1 : Int)) := by simp [sumW]

set_option maxRecDepth 100000 in
set_option maxHeartbeats 2000000 in
theorem used_in (F : Fence) (n : Nat) (h11 : F.fn 11) (h22 : F.fn 22) (h25 : F.fn 25) (hro : F.round = none) (hn : 3 ≤ n) (gh : Nat) (A : Option Addr) (cap : Nat) (vs : List SV) (hreach : vs.length ≤ 100000) (w : World) (hgh : gh < w.heap.size)
    (h1 : w.cell? ⟨gh, 1, none⟩ = some (.slice A vs.length cap)) (h2 : w.cell? ⟨gh, 2, none⟩ = some (.bool true)) (hI : RowIn w.heap.size w A vs) :
    CallsIn F n Try.prog 11 #[.pointer (some ⟨gh, 0, none⟩)] w fun e W' => e = .returned (.int .i64 (sumW (upto (fun j => (j, nthV vs j)) (vs.length + 1)))) ∧ Below w.heap.size w W' := by
  have hn1 : 1 ≤ n := by omega
  refine callsIn_of_wp_marks Try.func11 rfl h11 ?_ hro
  simp only [Try.ntmps11, List.size_toArray, List.length_cons, List.length_nil, Nat.reduceAdd, Nat.reduceSub, Array.replicate_succ, Array.replicate_zero, List.push_toArray, List.append_toArray, List.nil_append, List.cons_append]
  gi_wp2_with (gi_at_call 22; refine (all_in F (n - 1) h22 hro _ _).mono ?_; rintro e w' ⟨rfl, rfl⟩)
  obtain ⟨W0, hW0⟩ : ∃ W0, (w.alloc (.cells #[.int .i64 0] 3)).alloc (.cells #[.pointer (some ⟨gh, 0, none⟩)] 24) = W0 := ⟨_, rfl⟩
  have z0 : W0.heap.size = w.heap.size + 2 := by rw [← hW0]; simp
  have d0 : W0.cell? ⟨w.heap.size, 0, none⟩ = some (.int .i64 0) := by rw [← hW0]; simp [go_sem]
  have d3 : W0.cell? ⟨w.heap.size + 1, 0, none⟩ = some (.pointer (some ⟨gh, 0, none⟩)) := by rw [← hW0]; simp [go_sem]
  have f0 : W0.frozen? ⟨w.heap.size, 0, none⟩ = false := by rw [← hW0]; simp [go_sem]
  have hB0 : Below w.heap.size w W0 := by rw [← hW0]; go_grown
  have b1 := (hB0.cell (p := ⟨gh, 1, none⟩) hgh).trans h1
  have b2 := (hB0.cell (p := ⟨gh, 2, none⟩) hgh).trans h2
  rw [hW0]
  clear hW0 h1 h2
  refine wpIn_rangeFunc_ownG hro hn1 (gf := 25) (lb := #[.pointer (some ⟨w.heap.size + 1, 0, none⟩)]) rfl h25 (enters_of Try.func25 (by kernel_rfl) rfl)
    (all_stops F (n - 1) h25 hro (by omega) (w.heap.size + 1) gh w.heap.size cap A vs hreach W0 (by omega) hgh (by omega) d3 b1 b2 (hI.below hB0)) KB.trans (KB.put (by omega) (by omega)) (Below.refl _ _) (fun _ => rfl)
    (fun pre W => (W.cell? ⟨w.heap.size, 0, none⟩ = some (.int .i64 (sumW pre)) ∧ W.frozen? ⟨w.heap.size, 0, none⟩ = false) ∧ Below w.heap.size w W)
    (fun c pre W => False)
    (OwnFrom.and (Own.from (fun s A B row hs hg hr => ⟨cell_kept hs.1 hg hr, (frozen_kept hs.1 hg hr).trans hs.2⟩) _) (ownFrom_below (Nat.le_refl _) (by omega)))
    (fun c => fun _ _ _ _ hs _ _ => hs)
    ⟨⟨d0, f0⟩, hB0⟩
    (fun x => { tmps := #[.pointer (some ⟨gh, 0, none⟩), undef, .int .i64 0, .pointer (some ⟨w.heap.size, 0, none⟩), undef, .slice x.2.1 x.2.2.1 x.2.2.2, .pointer (some ⟨gh, 0, none⟩), .func (.func 25) #[] #[.pointer (some ⟨w.heap.size + 1, 0, none⟩)], .int .i64 (x.1 : Int), .slice x.2.1 x.2.2.1 x.2.2.2, undef, undef, undef, undef, undef], defers := [] }) ?assign ?body ?done ?stop
  case assign =>
    intro l x W K hK
    gi_wp2
    exact hK
  case body =>
    rintro l pre x W ⟨⟨c0, g0⟩, hB⟩ _
    gi_wp2
    refine ⟨(KeepsOthers.setCell _ _ _).from _, ⟨(Below.refl _ _).setCell (p := ⟨w.heap.size, 0, none⟩) (Nat.le_refl _) _, World.cell?_setCell_other _ _ _ _ (by intro e'; injection e' with e1 e2; omega)⟩, ⟨?_, by rw [World.frozen?_setCell]; exact g0⟩, hB.setCell (p := ⟨w.heap.size, 0, none⟩) (Nat.le_refl _) _⟩
    rw [sumW_snoc]
    exact World.cell?_setCell_same' _ _ _ (by rw [c0]; rfl)
  case done =>
    rintro D ys W hD rfl ⟨⟨c0, g0⟩, hB⟩ hK
    gi_wp2
    refine ⟨by simp, .inl ⟨_, _, rfl, run_takeDeferred hK, ?_⟩⟩
    exact ⟨_, results_tmp rfl _ _ _, rfl, hB.trans (belowK_b (w := w) (Nat.le_refl _) W D _ _ (by omega) hK rfl rfl)⟩
  case stop =>
    rintro D c pre W hD _ h _
    exact h.elim

set_option maxRecDepth 100000 in
set_option maxHeartbeats 2000000 in
theorem usedNone_in (F : Fence) (n : Nat) (h11 : F.fn 11) (h22 : F.fn 22) (h25 : F.fn 25) (hro : F.round = none) (hn : 3 ≤ n) (p : Option Addr) (w : World) (hu : Unmade w.heap.size w p) :
    CallsIn F n Try.prog 11 #[.pointer p] w fun e W' => e = .returned (.int .i64 0) ∧ Below w.heap.size w W' := by
  have hn1 : 1 ≤ n := by omega
  refine callsIn_of_wp_marks Try.func11 rfl h11 ?_ hro
  simp only [Try.ntmps11, List.size_toArray, List.length_cons, List.length_nil, Nat.reduceAdd, Nat.reduceSub, Array.replicate_succ, Array.replicate_zero, List.push_toArray, List.append_toArray, List.nil_append, List.cons_append]
  gi_wp2_with (gi_at_call 22; refine (all_in F (n - 1) h22 hro _ _).mono ?_; rintro e w' ⟨rfl, rfl⟩)
  obtain ⟨W0, hW0⟩ : ∃ W0, (w.alloc (.cells #[.int .i64 0] 3)).alloc (.cells #[.pointer p] 24) = W0 := ⟨_, rfl⟩
  have z0 : W0.heap.size = w.heap.size + 2 := by rw [← hW0]; simp
  have d0 : W0.cell? ⟨w.heap.size, 0, none⟩ = some (.int .i64 0) := by rw [← hW0]; simp [go_sem]
  have d3 : W0.cell? ⟨w.heap.size + 1, 0, none⟩ = some (.pointer p) := by rw [← hW0]; simp [go_sem]
  have f0 : W0.frozen? ⟨w.heap.size, 0, none⟩ = false := by rw [← hW0]; simp [go_sem]
  have hB0 : Below w.heap.size w W0 := by rw [← hW0]; go_grown
  rw [hW0]
  clear hW0
  refine wpIn_rangeFunc_ownG hro hn1 (gf := 25) (lb := #[.pointer (some ⟨w.heap.size + 1, 0, none⟩)]) rfl h25 (enters_of Try.func25 (by kernel_rfl) rfl)
    (none_stops F (n - 1) h25 hro (w.heap.size + 1) w.heap.size p W0 (by omega) (by omega) d3 (hu.below hB0)) KB.trans (KB.put (by omega) (by omega)) (Below.refl _ _) (fun _ => rfl)
    (fun pre W => (W.cell? ⟨w.heap.size, 0, none⟩ = some (.int .i64 0) ∧ W.frozen? ⟨w.heap.size, 0, none⟩ = false) ∧ Below w.heap.size w W)
    (fun c pre W => False)
    (OwnFrom.and (Own.from (fun s A B row hs hg hr => ⟨cell_kept hs.1 hg hr, (frozen_kept hs.1 hg hr).trans hs.2⟩) _) (ownFrom_below (Nat.le_refl _) (by omega)))
    (fun c => fun _ _ _ _ hs _ _ => hs)
    ⟨⟨d0, f0⟩, hB0⟩
    (fun x => { tmps := #[.pointer p, undef, .int .i64 0, .pointer (some ⟨w.heap.size, 0, none⟩), undef, .slice x.2.1 x.2.2.1 x.2.2.2, .pointer p, .func (.func 25) #[] #[.pointer (some ⟨w.heap.size + 1, 0, none⟩)], .int .i64 (x.1 : Int), .slice x.2.1 x.2.2.1 x.2.2.2, undef, undef, undef, undef, undef], defers := [] }) ?assign ?body ?done ?stop
  case assign =>
    intro l x W K hK
    gi_wp2
    exact hK
  case body =>
    rintro l pre x W _ hlen
    exact absurd hlen (by omega)
  case done =>
    rintro D ys W hD rfl ⟨⟨c0, g0⟩, hB⟩ hK
    gi_wp2
    refine ⟨by simp, .inl ⟨_, _, rfl, run_takeDeferred hK, ?_⟩⟩
    exact ⟨_, results_tmp rfl _ _ _, rfl, hB.trans (belowK_b (w := w) (Nat.le_refl _) W D _ _ (by omega) hK rfl rfl)⟩
  case stop =>
    rintro D c pre W hD _ h _
    exact h.elim

/-- Contracts of array and Used, of a heap that was made, and of one that was not. -/
theorem array_any (gh : Nat) (ref : Int) (A : Option Addr) (cap : Nat) (vs : List SV) (hreach : vs.length ≤ 100000) (w : World) (hgh : gh < w.heap.size)
    (h1 : w.cell? ⟨gh, 1, none⟩ = some (.slice A vs.length cap)) (h2 : w.cell? ⟨gh, 2, none⟩ = some (.bool true)) (hI : RowIn w.heap.size w A vs) :
    Calls Try.prog 21 #[.pointer (some ⟨gh, 0, none⟩), .int .i64 ref] w fun e W' => e = .returned (.tuple #[svV (arrOf vs ref), .bool (hasB vs ref)]) ∧ Below w.heap.size w W' :=
  (callsIn_wide (n := 3)).1 (array_in Fence.wide 3 True.intro True.intro True.intro rfl (Nat.le_refl _) gh ref A cap vs hreach w hgh h1 h2 hI)
theorem arrayNone_any (p : Option Addr) (ref : Int) (w : World) (hu : Unmade w.heap.size w p) :
    Calls Try.prog 21 #[.pointer p, .int .i64 ref] w fun e W' => e = .returned (.tuple #[.slice none 0 0, .bool false]) ∧ Below w.heap.size w W' :=
  (callsIn_wide (n := 3)).1 (arrayNone_in Fence.wide 3 True.intro True.intro True.intro rfl (Nat.le_refl _) p ref w hu)
theorem used_any (gh : Nat) (A : Option Addr) (cap : Nat) (vs : List SV) (hreach : vs.length ≤ 100000) (w : World) (hgh : gh < w.heap.size)
    (h1 : w.cell? ⟨gh, 1, none⟩ = some (.slice A vs.length cap)) (h2 : w.cell? ⟨gh, 2, none⟩ = some (.bool true)) (hI : RowIn w.heap.size w A vs) :
    Calls Try.prog 11 #[.pointer (some ⟨gh, 0, none⟩)] w fun e W' => e = .returned (.int .i64 (sumW (upto (fun j => (j, nthV vs j)) (vs.length + 1)))) ∧ Below w.heap.size w W' :=
  (callsIn_wide (n := 3)).1 (used_in Fence.wide 3 True.intro True.intro True.intro rfl (Nat.le_refl _) gh A cap vs hreach w hgh h1 h2 hI)
theorem usedNone_any (p : Option Addr) (w : World) (hu : Unmade w.heap.size w p) :
    Calls Try.prog 11 #[.pointer p] w fun e W' => e = .returned (.int .i64 0) ∧ Below w.heap.size w W' :=
  (callsIn_wide (n := 3)).1 (usedNone_in Fence.wide 3 True.intro True.intro True.intro rfl (Nat.le_refl _) p w hu)
#print axioms array_any
#print axioms used_any
end Go.Proofs.Ythllfeogchbihab
