/- Heaps (package heap): the iterator over arrays, one of a number, how many words are given: contracts. -/
import Derived.RangeFuncNested
import Derived.RangeFuncBound
import Derived.RangeFuncCalls
import Derived.RangeFuncLeaves
import Derived.RangeFuncBox
import Derived.Shelf.Abstract
import Derived.Shelf.RegionOpen
import Derived.WalkKit
import Derived.OwnWalkIn
import Derived.TacticsInMore
import Derived.LoopNIn
import Derived.LoopIn
import Derived.WalkLawsBesides
import Derived.KernelRfl
import Derived.Lib.Hide
import Derived.Test.YthllfeogchbihabBlk
namespace Go.Proofs.Ythllfeogchbihab
open Go.RowKit Go.Shelf
set_option linter.unusedSimpArgs false
set_option linter.unusedVariables false
attribute [local go_sem] Oper.semAt_some

/-- What has come when k rounds are over. -/
def upto {α : Type} (f : Nat → α) (k : Nat) : List α := (List.range k).map f
theorem upto_succ {α : Type} (f : Nat → α) (k : Nat) : upto f (k + 1) = upto f k ++ [f k] := by simp [upto, List.range_succ]
theorem upto_length {α : Type} (f : Nat → α) (k : Nat) : (upto f k).length = k := by simp [upto]

/-- A slice value. -/
abbrev SV := Option Addr × Nat × Nat
def svV (s : SV) : Value := .slice s.1 s.2.1 s.2.2
/-- The array of a number: number 0 has none. -/
def nthV (vs : List SV) (k : Nat) : SV := if k = 0 then (none, 0, 0) else vs[k - 1]?.getD (none, 0, 0)

/-- A row of slices in memory. -/
def RowIn (n₀ : Nat) (W : World) (A : Option Addr) (vs : List SV) : Prop :=
  ∀ j, j < vs.length → ∃ b off, A = some ⟨b, off, none⟩ ∧ b < n₀ ∧ W.cell? ⟨b, off + j, none⟩ = some (svV (vs[j]?.getD (none, 0, 0)))
theorem RowIn.below {n₀ : Nat} {V W : World} (h : Below n₀ V W) {A : Option Addr} {vs : List SV} (hI : RowIn n₀ V A vs) : RowIn n₀ W A vs := fun j hj => by
  obtain ⟨b, off, hA, hb, hc⟩ := hI j hj
  exact ⟨b, off, hA, hb, (h.cell (p := ⟨b, off + j, none⟩) hb).trans hc⟩

/-- What a round keeps: what lay below n₀, and the box of the captured variable. -/
def KB (n₀ Bs : Nat) (W W' : World) : Prop := Below n₀ W W' ∧ W'.cell? ⟨Bs, 0, none⟩ = W.cell? ⟨Bs, 0, none⟩
theorem KB.refl (n₀ Bs : Nat) (W : World) : KB n₀ Bs W W := ⟨Below.refl _ _, rfl⟩
theorem KB.trans {n₀ Bs : Nat} {A B C : World} (h : KB n₀ Bs A B) (k : KB n₀ Bs B C) : KB n₀ Bs A C := ⟨h.1.trans k.1, k.2.trans h.2⟩
theorem KB.put {n₀ Bs : Nat} {w : World} (hn : n₀ ≤ w.heap.size) (hb : Bs < w.heap.size) (W : World) (l : Nat) (o o' : Obj) (hl : w.heap.size ≤ l) (h : W.heap[l]? = some o) (h2 : o.isCells = false) (h3 : o.isWalk = false) : KB n₀ Bs W (W.putObj l o') :=
  ⟨belowK_b hn W l o o' hl h h2 h3, by
    unfold World.cell?
    simp only
    rw [World.putObj_heap_other (by omega)]⟩

set_option maxRecDepth 100000 in
set_option maxHeartbeats 2000000 in
/-- The iterator's closure over a heap that was made, for every loop body that keeps what lay below n₀. -/
theorem all1_in (F : Fence) (n : Nat) (h25 : F.fn 25) (hro : F.round = none) (hn : 1 ≤ n) (l Bs gh n₀ cap : Nat) (A : Option Addr) (vs : List SV) (hreach : vs.length ≤ 100000) (J Jx : List (Nat × SV) → World → Prop)
    (hY : ∀ pre x W, J pre W → pre.length < vs.length + 1 → YieldAt F (n - 1) Try.prog l #[.int .i64 (x.1 : Int), .slice x.2.1 x.2.2.1 x.2.2.2] W fun e W' =>
      (e = .returned (.bool true) ∧ J (pre ++ [x]) W' ∧ KB n₀ Bs W W') ∨ (e = .returned (.bool false) ∧ Jx (pre ++ [x]) W'))
    (W : World) (hgh : gh < n₀) (hBs : W.cell? ⟨Bs, 0, none⟩ = some (.pointer (some ⟨gh, 0, none⟩))) (h1 : W.cell? ⟨gh, 1, none⟩ = some (.slice A vs.length cap)) (h2 : W.cell? ⟨gh, 2, none⟩ = some (.bool true))
    (hc : RowIn n₀ W A vs) (h0 : J [] W) :
    CallsIn F n Try.prog 25 #[.func (.yield l) #[] #[], .pointer (some ⟨Bs, 0, none⟩)] W fun e W' => (∃ v, e = .returned v) ∧
      ((∃ ys, ys = upto (fun j => (j, nthV vs j)) (vs.length + 1) ∧ J ys W') ∨ (∃ pre, (∃ k, k ≤ vs.length + 1 ∧ pre = upto (fun j => (j, nthV vs j)) k) ∧ Jx pre W')) := by
  refine callsIn_of_wp Try.func25 rfl h25 ?_ hro
  simp only [Try.ntmps25, List.size_toArray, List.length_cons, List.length_nil, Nat.reduceAdd, Nat.reduceSub, Array.replicate_succ, Array.replicate_zero, List.push_toArray, List.append_toArray, List.nil_append, List.cons_append]
  have HC := Lib.hid hc
  have H3 : Hid (W.cell? ⟨Bs, 0, none⟩ = some (.pointer (some ⟨gh, 0, none⟩)) ∧ W.cell? ⟨gh, 1, none⟩ = some (.slice A vs.length cap) ∧ W.cell? ⟨gh, 2, none⟩ = some (.bool true)) := Lib.hid ⟨hBs, h1, h2⟩
  clear hc
  gi_wp2
  gi_loopw [3] (fun i wr => ∃ k : Nat, k ≤ vs.length + 1 ∧ i = .int .i64 k ∧ J (upto (fun j => (j, nthV vs j)) k) wr ∧ KB n₀ Bs W wr)
    (fun i _ => vs.length + 1 - (intOf i).toNat)
  case atStart => exact ⟨0, Nat.zero_le _, rfl, h0, KB.refl _ _ _⟩
  case round =>
    obtain ⟨k, hk, rfl, hJs, hnx⟩ := hrel
    have c1 : wr.cell? ⟨Bs, 0, none⟩ = some (.pointer (some ⟨gh, 0, none⟩)) := hnx.2.trans H3.out.1
    have c2 : wr.cell? ⟨gh, 1, none⟩ = some (.slice A vs.length cap) := (hnx.1.cell (p := ⟨gh, 1, none⟩) hgh).trans H3.out.2.1
    clear hBs h1 h2
    by_cases hlt : k ≤ vs.length
    · by_cases hk0 : k = 0
      · subst hk0
        obtain ⟨fn, tmps, assign, body, hy, hR⟩ := hY _ (0, none, 0, 0) wr hJs (by rw [upto_length]; omega)
        dsimp only at hy
        rw [show ((0 : Nat) : Int) = 0 from rfl] at hy
        gi_wp2
        refine hR.mono ?_
        rintro e W3 (⟨rfl, hJ3, hk3⟩ | ⟨rfl, hJx3⟩)
        · gi_wp2
          go_roundw
          case rel => exact ⟨1, by omega, by simp, by rw [upto_succ]; exact hJ3, hnx.trans hk3⟩
          case measure => simp [intOf]
        · gi_wp2
          refine bodyPost_ret (results_none rfl _ _ _) rfl ?_
          exact ⟨⟨_, rfl⟩, .inr ⟨_, ⟨1, by omega, by rw [upto_succ]; rfl⟩, hJx3⟩⟩
      · obtain ⟨k, rfl⟩ : ∃ q, k = q + 1 := ⟨k - 1, by omega⟩
        obtain ⟨b, off, rfl, hb, hcx⟩ := HC.out k (by omega)
        have hcx' : wr.cell? ⟨b, off + k, none⟩ = some (svV (vs[k]?.getD (none, 0, 0))) := (hnx.1.cell (p := ⟨b, off + k, none⟩) hb).trans hcx
        have hnv : nthV vs (k + 1) = vs[k]?.getD (none, 0, 0) := by simp [nthV]
        obtain ⟨X, hX⟩ : ∃ X, vs[k]?.getD (none, 0, 0) = X := ⟨_, rfl⟩
        obtain ⟨fn, tmps, assign, body, hy, hR⟩ := hY _ (k + 1, X) wr hJs (by rw [upto_length]; omega)
        rw [hX] at hcx' hnv
        obtain ⟨XA, Xl, Xc⟩ := X
        dsimp only at hy
        simp only [svV] at hcx'
        have HX := Lib.hid hnv
        rw [show ((k + 1 : Nat) : Int) = (k : Int) + 1 by omega] at hy
        clear hcx hX hnv hk0
        gi_wp2
        refine hR.mono ?_
        rintro e W3 (⟨rfl, hJ3, hk3⟩ | ⟨rfl, hJx3⟩)
        · gi_wp2
          go_roundw
          case rel => exact ⟨k + 1 + 1, by omega, by first | go_num | simp, by rw [upto_succ, HX.out]; exact hJ3, hnx.trans hk3⟩
          case measure => simp [intOf]; omega
        · gi_wp2
          refine bodyPost_ret (results_none rfl _ _ _) rfl ?_
          exact ⟨⟨_, rfl⟩, .inr ⟨_, ⟨k + 1 + 1, by omega, by rw [upto_succ _ (k + 1), HX.out]⟩, hJx3⟩⟩
    · obtain rfl : k = vs.length + 1 := by omega
      gi_wp2
      go_end0
      exact ⟨⟨_, rfl⟩, .inl ⟨_, rfl, hJs⟩⟩

theorem all_stops (F : Fence) (n : Nat) (h25 : F.fn 25) (hro : F.round = none) (hn : 1 ≤ n) (Bs gh n₀ cap : Nat) (A : Option Addr) (vs : List SV) (hreach : vs.length ≤ 100000) (w : World) (hbs : Bs < w.heap.size) (hgh : gh < n₀) (hn₀ : n₀ ≤ w.heap.size)
    (hBs : w.cell? ⟨Bs, 0, none⟩ = some (.pointer (some ⟨gh, 0, none⟩))) (h1 : w.cell? ⟨gh, 1, none⟩ = some (.slice A vs.length cap)) (h2 : w.cell? ⟨gh, 2, none⟩ = some (.bool true)) (hI : RowIn n₀ w A vs) :
    SeqStopsK F n Try.prog 25 #[.pointer (some ⟨Bs, 0, none⟩)] (fun x : Nat × SV => #[Value.int .i64 (x.1 : Int), .slice x.2.1 x.2.2.1 x.2.2.2]) (KB n₀ Bs) (fun ys => ys = upto (fun j => (j, nthV vs j)) (vs.length + 1))
      (fun pre => ∃ k, k ≤ vs.length + 1 ∧ pre = upto (fun j => (j, nthV vs j)) k) (vs.length + 1) w := fun l J Jx W hW _ _ hY h0 =>
  all1_in F n h25 hro hn l Bs gh n₀ cap A vs hreach J Jx hY W hgh ((hW.cell (p := ⟨Bs, 0, none⟩) hbs).trans hBs) (((hW.mono hn₀).cell (p := ⟨gh, 1, none⟩) hgh).trans h1) (((hW.mono hn₀).cell (p := ⟨gh, 2, none⟩) hgh).trans h2) (hI.below (hW.mono hn₀)) h0

/-- A heap that nobody made. -/
def Unmade (n₀ : Nat) (W : World) (p : Option Addr) : Prop := p = none ∨ ∃ gh, p = some ⟨gh, 0, none⟩ ∧ gh < n₀ ∧ W.cell? ⟨gh, 2, none⟩ = some (.bool false)
theorem Unmade.below {n₀ : Nat} {V W : World} (h : Below n₀ V W) {p : Option Addr} (hu : Unmade n₀ V p) : Unmade n₀ W p := by
  rcases hu with rfl | ⟨gh, rfl, hl, hc⟩
  · exact .inl rfl
  · exact .inr ⟨gh, rfl, hl, (h.cell (p := ⟨gh, 2, none⟩) hl).trans hc⟩

theorem none_stops (F : Fence) (n : Nat) (h25 : F.fn 25) (hro : F.round = none) (Bs n₀ : Nat) (p : Option Addr) (w : World) (hbs : Bs < w.heap.size) (hn₀ : n₀ ≤ w.heap.size) (hBs : w.cell? ⟨Bs, 0, none⟩ = some (.pointer p)) (hu : Unmade n₀ w p) :
    SeqStopsK F n Try.prog 25 #[.pointer (some ⟨Bs, 0, none⟩)] (fun x : Nat × SV => #[Value.int .i64 (x.1 : Int), .slice x.2.1 x.2.2.1 x.2.2.2]) (KB n₀ Bs) (fun ys => ys = []) (fun _ => False) 0 w := fun l J Jx W hW _ _ hY h0 => by
  have c0 := (hW.cell (p := ⟨Bs, 0, none⟩) hbs).trans hBs
  have hu' := hu.below (hW.mono hn₀)
  clear hBs hu
  refine CallsIn.mono (R := fun e W' => (∃ v, e = .returned v) ∧ J [] W') ?_ (fun e W' ⟨he, hj⟩ => ⟨he, .inl ⟨_, rfl, hj⟩⟩)
  rcases hu' with rfl | ⟨gh, rfl, hl, hc⟩
  · refine callsIn_of_wp Try.func25 rfl h25 ?_ hro
    simp only [Try.ntmps25, List.size_toArray, List.length_cons, List.length_nil, Nat.reduceAdd, Nat.reduceSub, Array.replicate_succ, Array.replicate_zero, List.push_toArray, List.append_toArray, List.nil_append, List.cons_append]
    gi_wp2
    refine bodyPost_ret (results_none rfl _ _ _) rfl ?_
    exact ⟨⟨_, rfl⟩, h0⟩
  · refine callsIn_of_wp Try.func25 rfl h25 ?_ hro
    simp only [Try.ntmps25, List.size_toArray, List.length_cons, List.length_nil, Nat.reduceAdd, Nat.reduceSub, Array.replicate_succ, Array.replicate_zero, List.push_toArray, List.append_toArray, List.nil_append, List.cons_append]
    gi_wp2
    refine bodyPost_ret (results_none rfl _ _ _) rfl ?_
    exact ⟨⟨_, rfl⟩, h0⟩

theorem all_in (F : Fence) (n : Nat) (h22 : F.fn 22) (hro : F.round = none) (p : Option Addr) (w : World) :
    CallsIn F n Try.prog 22 #[.pointer p] w fun e w' => e = .returned (.func (.func 25) #[] #[.pointer (some ⟨w.heap.size, 0, none⟩)]) ∧ w' = w.alloc (.cells #[.pointer p] 24) := by
  refine callsIn_of_wp Try.func22 rfl h22 ?_ hro
  simp only [Try.ntmps22, List.size_toArray, List.length_cons, List.length_nil, Nat.reduceAdd, Nat.reduceSub, Array.replicate_succ, Array.replicate_zero, List.push_toArray, List.append_toArray, List.nil_append, List.cons_append]
  gi_wp2
  go_ret
  exact ⟨rfl, rfl⟩

/-- The array of a number, as the heap tells it. -/
def arrOf (vs : List SV) (ref : Int) : SV := if 0 ≤ ref ∧ ref ≤ vs.length then nthV vs ref.toNat else (none, 0, 0)
def hasB (vs : List SV) (ref : Int) : Bool := decide (0 ≤ ref ∧ ref ≤ vs.length)

set_option maxRecDepth 100000 in
set_option maxHeartbeats 2000000 in
theorem array_in (F : Fence) (n : Nat) (h21 : F.fn 21) (h22 : F.fn 22) (h25 : F.fn 25) (hro : F.round = none) (hn : 3 ≤ n) (gh : Nat) (ref : Int) (A : Option Addr) (cap : Nat) (vs : List SV) (hreach : vs.length ≤ 100000) (w : World) (hgh : gh < w.heap.size)
    (h1 : w.cell? ⟨gh, 1, none⟩ = some (.slice A vs.length cap)) (h2 : w.cell? ⟨gh, 2, none⟩ = some (.bool true)) (hI : RowIn w.heap.size w A vs) :
    CallsIn F n Try.prog 21 #[.pointer (some ⟨gh, 0, none⟩), .int .i64 ref] w fun e W' => e = .returned (.tuple #[svV (arrOf vs ref), .bool (hasB vs ref)]) ∧ Below w.heap.size w W' := by
  have hn1 : 1 ≤ n := by omega
  refine callsIn_of_wp_marks Try.func21 rfl h21 ?_ hro
  simp only [Try.ntmps21, List.size_toArray, List.length_cons, List.length_nil, Nat.reduceAdd, Nat.reduceSub, Array.replicate_succ, Array.replicate_zero, List.push_toArray, List.append_toArray, List.nil_append, List.cons_append]
  gi_wp2_with (gi_at_call 22; refine (all_in F (n - 1) h22 hro _ _).mono ?_; rintro e w' ⟨rfl, rfl⟩)
  obtain ⟨W0, hW0⟩ : ∃ W0, (((w.alloc (.cells #[.int .i64 ref] 2)).alloc (.cells #[.slice none 0 0] 25)).alloc (.cells #[.bool false] 4)).alloc (.cells #[.pointer (some ⟨gh, 0, none⟩)] 24) = W0 := ⟨_, rfl⟩
  have z0 : W0.heap.size = w.heap.size + 4 := by rw [← hW0]; simp
  have d0 : W0.cell? ⟨w.heap.size, 0, none⟩ = some (.int .i64 ref) := by rw [← hW0]; simp [go_sem]
  have d1 : W0.cell? ⟨w.heap.size + 1, 0, none⟩ = some (.slice none 0 0) := by rw [← hW0]; simp [go_sem]
  have d2 : W0.cell? ⟨w.heap.size + 1 + 1, 0, none⟩ = some (.bool false) := by rw [← hW0]; simp [go_sem]
  have d3 : W0.cell? ⟨w.heap.size + 1 + 1 + 1, 0, none⟩ = some (.pointer (some ⟨gh, 0, none⟩)) := by rw [← hW0]; simp [go_sem]
  have f1 : W0.frozen? ⟨w.heap.size + 1, 0, none⟩ = false := by rw [← hW0]; simp [go_sem]
  have f2 : W0.frozen? ⟨w.heap.size + 1 + 1, 0, none⟩ = false := by rw [← hW0]; simp [go_sem]
  have hB0 : Below w.heap.size w W0 := by rw [← hW0]; go_grown
  have b1 := (hB0.cell (p := ⟨gh, 1, none⟩) hgh).trans h1
  have b2 := (hB0.cell (p := ⟨gh, 2, none⟩) hgh).trans h2
  rw [hW0]
  clear hW0 h1 h2
  refine wpIn_rangeFunc_ownG hro hn1 (gf := 25) (lb := #[.pointer (some ⟨w.heap.size + 1 + 1 + 1, 0, none⟩)]) rfl h25 (enters_of Try.func25 (by kernel_rfl) rfl)
    (all_stops F (n - 1) h25 hro (by omega) (w.heap.size + 1 + 1 + 1) gh w.heap.size cap A vs hreach W0 (by omega) hgh (by omega) d3 b1 b2 (hI.below hB0)) KB.trans (KB.put (by omega) (by omega)) (Below.refl _ _) (fun _ => rfl)
    (fun pre W => ((∀ p ∈ pre, (p.1 : Int) ≠ ref) ∧ W.cell? ⟨w.heap.size, 0, none⟩ = some (.int .i64 ref) ∧ W.cell? ⟨w.heap.size + 1, 0, none⟩ = some (.slice none 0 0) ∧ W.frozen? ⟨w.heap.size + 1, 0, none⟩ = false ∧ W.cell? ⟨w.heap.size + 1 + 1, 0, none⟩ = some (.bool false) ∧ W.frozen? ⟨w.heap.size + 1 + 1, 0, none⟩ = false) ∧ Below w.heap.size w W)
    (fun c pre W => (c = .ret ∧ ∃ ini last, pre = ini ++ [last] ∧ ((last.1 : Int) = ref) ∧ W.cell? ⟨w.heap.size + 1, 0, none⟩ = some (svV last.2) ∧ W.cell? ⟨w.heap.size + 1 + 1, 0, none⟩ = some (.bool true)) ∧ Below w.heap.size w W)
    (OwnFrom.and (Own.from (fun s A B row hs hg hr => ⟨hs.1, cell_kept hs.2.1 hg hr, cell_kept hs.2.2.1 hg hr, (frozen_kept hs.2.2.1 hg hr).trans hs.2.2.2.1, cell_kept hs.2.2.2.2.1 hg hr, (frozen_kept hs.2.2.2.2.1 hg hr).trans hs.2.2.2.2.2⟩) _) (ownFrom_below (Nat.le_refl _) (by omega)))
    (fun c => OwnFrom.and (Own.from (fun s A B row hs hg hr => by obtain ⟨hc, ini, last, e1, e2, e3, e4⟩ := hs; exact ⟨hc, ini, last, e1, e2, cell_kept e3 hg hr, cell_kept e4 hg hr⟩) _) (ownFrom_below (Nat.le_refl _) (by omega)))
    ⟨⟨by simp, d0, d1, f1, d2, f2⟩, hB0⟩
    (fun x => { tmps := #[.pointer (some ⟨gh, 0, none⟩), .int .i64 ref, undef, .pointer (some ⟨w.heap.size, 0, none⟩), .pointer (some ⟨w.heap.size + 1, 0, none⟩), .pointer (some ⟨w.heap.size + 1 + 1, 0, none⟩), .int .i64 (x.1 : Int), .slice x.2.1 x.2.2.1 x.2.2.2, .pointer (some ⟨gh, 0, none⟩), .func (.func 25) #[] #[.pointer (some ⟨w.heap.size + 1 + 1 + 1, 0, none⟩)], .int .i64 (x.1 : Int), .slice x.2.1 x.2.2.1 x.2.2.2, undef, undef, undef, undef], defers := [] }) ?assign ?body ?done ?stop
  case assign =>
    intro l x W K hK
    gi_wp2
    exact hK
  case body =>
    rintro l pre x W ⟨⟨hp, c0, c1, g1, c2, g2⟩, hB⟩ _
    by_cases hx : (x.1 : Int) = ref
    · have e1 : ((x.1 : Int) == ref) = true := by rw [beq_iff_eq]; exact hx
      have HX := Lib.hid hx
      clear hx
      gi_wp2
      refine ⟨((KeepsOthers.setCell _ _ _).trans (KeepsOthers.setCell _ _ _)).from _, ⟨rfl, pre, x, rfl, HX.out, ?_, ?_⟩, ?_⟩
      · rw [World.cell?_setCell_other _ _ _ _ (by intro e'; injection e' with e1 e2; omega)]
        exact World.cell?_setCell_same' _ _ _ (by rw [c1]; rfl)
      · exact World.cell?_setCell_same' _ _ _ (by rw [World.cell?_setCell_other _ _ _ _ (by intro e'; injection e' with e1 e2; omega), c2]; rfl)
      · exact (hB.setCell (p := ⟨w.heap.size + 1, 0, none⟩) (by show w.heap.size ≤ w.heap.size + 1; omega) _).setCell (p := ⟨w.heap.size + 1 + 1, 0, none⟩) (by show w.heap.size ≤ w.heap.size + 1 + 1; omega) _
    · have e1 : ((x.1 : Int) == ref) = false := by rw [beq_eq_false_iff_ne]; exact hx
      have HX : Hid ((x.1 : Int) ≠ ref) := Lib.hid hx
      clear hx
      gi_wp2
      exact ⟨KeepsFrom.refl _ _, KB.refl _ _ _, ⟨fun p hp' => (List.mem_append.1 hp').elim (hp p) (fun e => by simp at e; subst e; exact HX.out), c0, c1, g1, c2, g2⟩, hB⟩
  case done =>
    rintro D ys W hD rfl ⟨⟨hne, c0, c1, g1, c2, g2⟩, hB⟩ hK
    gi_wp2
    have hK' := ((KeepsOthers.setCell W ⟨w.heap.size + 1, 0, none⟩ (.slice none 0 0)).trans (KeepsOthers.setCell _ ⟨w.heap.size + 1 + 1, 0, none⟩ (.bool false))).same D _ hK rfl
    refine ⟨by simp, .inl ⟨_, _, rfl, run_takeDeferred hK', ?_⟩⟩
    have k1 : ((W.setCell ⟨w.heap.size + 1, 0, none⟩ (.slice none 0 0)).setCell ⟨w.heap.size + 1 + 1, 0, none⟩ (.bool false)).cell? ⟨w.heap.size + 1, 0, none⟩ = some (.slice none 0 0) := by
      rw [World.cell?_setCell_other _ _ _ _ (by intro e'; injection e' with e1 e2; omega)]
      exact World.cell?_setCell_same' _ _ _ (by rw [c1]; rfl)
    have k2 : ((W.setCell ⟨w.heap.size + 1, 0, none⟩ (.slice none 0 0)).setCell ⟨w.heap.size + 1 + 1, 0, none⟩ (.bool false)).cell? ⟨w.heap.size + 1 + 1, 0, none⟩ = some (.bool false) :=
      World.cell?_setCell_same' _ _ _ (by rw [World.cell?_setCell_other _ _ _ _ (by intro e'; injection e' with e1 e2; omega), c2]; rfl)
    have hc4 := cell_kept k1 (grownBy_putObj' _ D (.deferred none)) (fun r e => by cases e; exact ⟨_, hK', rfl⟩)
    have hc5 := cell_kept k2 (grownBy_putObj' _ D (.deferred none)) (fun r e => by cases e; exact ⟨_, hK', rfl⟩)
    have hp : hasB vs ref = false ∧ arrOf vs ref = (none, 0, 0) := by
      have : ¬ (0 ≤ ref ∧ ref ≤ vs.length) := by
        rintro ⟨p0, p1⟩
        refine hne (ref.toNat, nthV vs ref.toNat) ?_ (by simp; omega)
        simp only [upto, List.mem_map, List.mem_range]
        exact ⟨ref.toNat, by omega, rfl⟩
      exact ⟨decide_eq_false this, if_neg this⟩
    refine ⟨.tuple #[.slice none 0 0, .bool false], ?_, by rw [hp.1, hp.2]; rfl, ((hB.setCell (p := ⟨w.heap.size + 1, 0, none⟩) (by show w.heap.size ≤ w.heap.size + 1; omega) _).setCell (p := ⟨w.heap.size + 1 + 1, 0, none⟩) (by show w.heap.size ≤ w.heap.size + 1 + 1; omega) _).trans (belowK_b (w := w) (Nat.le_refl _) _ D _ _ (by omega) hK' rfl rfl)⟩
    simp [results, Try.f21, go_sem, hc4, hc5]
  case stop =>
    rintro D c pre W hD ⟨k', hk, rfl⟩ ⟨⟨rfl, ini, last, e1, e2, c1, c2⟩, hB⟩ hK
    gi_wp2
    refine ⟨by simp, .inl ⟨_, _, rfl, run_takeDeferred hK, ?_⟩⟩
    have hc4 := cell_kept c1 (grownBy_putObj' _ D (.deferred none)) (fun r e => by cases e; exact ⟨_, hK, rfl⟩)
    have hc5 := cell_kept c2 (grownBy_putObj' _ D (.deferred none)) (fun r e => by cases e; exact ⟨_, hK, rfl⟩)
    obtain ⟨k2, rfl⟩ : ∃ k2, k' = k2 + 1 := by
      cases k' with
      | zero => simp [upto] at e1
      | succ k2 => exact ⟨k2, rfl⟩
    rw [upto_succ] at e1
    obtain ⟨rfl, e5⟩ := List.append_inj' e1 rfl
    obtain rfl : (k2, nthV vs k2) = last := by simpa using e5
    simp only at e2 hc4
    have hp : hasB vs ref = true ∧ arrOf vs ref = nthV vs k2 := by
      have : 0 ≤ ref ∧ ref ≤ vs.length := by omega
      refine ⟨decide_eq_true this, ?_⟩
      unfold arrOf
      rw [if_pos this, show ref.toNat = k2 by omega]
    refine ⟨.tuple #[svV (nthV vs k2), .bool true], ?_, by rw [hp.1, hp.2], hB.trans (belowK_b (w := w) (Nat.le_refl _) W D _ _ (by omega) hK rfl rfl)⟩
    simp [results, Try.f21, go_sem, hc4, hc5, svV]

end Go.Proofs.Ythllfeogchbihab
