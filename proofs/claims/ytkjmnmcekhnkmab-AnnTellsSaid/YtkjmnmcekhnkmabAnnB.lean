/- Announcements (package ann): the iterator over a process's last Seqs, and whether an announcement is pending: for every slice of numbers. -/
import Derived.RangeFuncNested
import Derived.RangeFuncBound
import Derived.RangeFuncCalls
import Derived.RangeFuncLeaves
import Derived.RangeFuncBox
import Derived.Shelf.Abstract
import Derived.Shelf.RegionOpen
import Derived.WalkKit
import Derived.OwnWalkIn
import Derived.TacticsInMore
import Derived.LoopNIn
import Derived.LoopIn
import Derived.Test.YtkjmnmcekhnkmabAnnA
namespace Go.Proofs.Ytkjmnmcekhnkmab
open Go.RowKit Go.Shelf
set_option linter.unusedSimpArgs false
set_option linter.unusedVariables false
attribute [local go_sem] Oper.semAt_some

/-- What has come when k rounds are over. -/
def upto {α : Type} (f : Nat → α) (k : Nat) : List α := (List.range k).map f
theorem upto_succ {α : Type} (f : Nat → α) (k : Nat) : upto f (k + 1) = upto f k ++ [f k] := by simp [upto, List.range_succ]
theorem upto_length {α : Type} (f : Nat → α) (k : Nat) : (upto f k).length = k := by simp [upto]

/-- A slice value's cells hold the numbers zs, in a block below n₀. -/
def IntsAt (n₀ : Nat) (W : World) (A : Option Addr) (zs : List Int) : Prop :=
  ∀ j, j < zs.length → ∃ b off, A = some ⟨b, off, none⟩ ∧ b < n₀ ∧ W.cell? ⟨b, off + j, none⟩ = some (.int .i64 (zs[j]?.getD 0))
theorem IntsAt.below {n₀ : Nat} {V W : World} (h : Below n₀ V W) {A : Option Addr} {zs : List Int} (hI : IntsAt n₀ V A zs) : IntsAt n₀ W A zs := fun j hj => by
  obtain ⟨b, off, hA, hb, hc⟩ := hI j hj
  exact ⟨b, off, hA, hb, (h.cell (p := ⟨b, off + j, none⟩) hb).trans hc⟩

set_option maxRecDepth 100000 in
set_option maxHeartbeats 2000000 in
/-- The iterator's closure, for every loop body that keeps what lay below n₀. -/
theorem turns1_in (F : Fence) (n : Nat) (h8 : F.fn 53) (hro : F.round = none) (hn : 1 ≤ n) (l Bs n₀ cap : Nat) (A : Option Addr) (zs : List Int) (hreach : zs.length ≤ 1000) (J Jx : List (Nat × Int) → World → Prop)
    (hY : ∀ pre x W, J pre W → pre.length < zs.length → YieldAt F (n - 1) Try.prog l #[.int .i64 (x.1 : Int), .int .i64 x.2] W fun e W' =>
      (e = .returned (.bool true) ∧ J (pre ++ [x]) W' ∧ Below n₀ W W') ∨ (e = .returned (.bool false) ∧ Jx (pre ++ [x]) W'))
    (W : World) (hBs : W.cell? ⟨Bs, 0, none⟩ = some (.slice A zs.length cap)) (hc : IntsAt n₀ W A zs) (h0 : J [] W) :
    CallsIn F n Try.prog 53 #[.func (.yield l) #[] #[], .pointer (some ⟨Bs, 0, none⟩)] W fun e W' => (∃ v, e = .returned v) ∧
      ((∃ ys, ys = upto (fun j => (j, zs[j]?.getD 0)) zs.length ∧ J ys W') ∨ (∃ pre, (∃ k, k ≤ zs.length ∧ pre = upto (fun j => (j, zs[j]?.getD 0)) k) ∧ Jx pre W')) := by
  refine callsIn_of_wp Try.func53 rfl h8 ?_ hro
  simp only [Try.ntmps53, List.size_toArray, List.length_cons, List.length_nil, Nat.reduceAdd, Nat.reduceSub, Array.replicate_succ, Array.replicate_zero, List.push_toArray, List.append_toArray, List.nil_append, List.cons_append]
  have HC := Lib.hid hc
  clear hc
  gi_wp2
  gi_loopw [7] (fun i wr => ∃ k : Nat, k ≤ zs.length ∧ i = .int .i64 k ∧ J (upto (fun j => (j, zs[j]?.getD 0)) k) wr ∧ Below n₀ W wr)
    (fun i _ => zs.length - (intOf i).toNat)
  case atStart => exact ⟨0, Nat.zero_le _, rfl, h0, Below.refl _ _⟩
  case round =>
    obtain ⟨k, hk, rfl, hJs, hnx⟩ := hrel
    by_cases hlt : k < zs.length
    · obtain ⟨b, off, rfl, hb, hcx⟩ := HC.out k hlt
      have hcx' : wr.cell? ⟨b, off + k, none⟩ = some (.int .i64 (zs[k]?.getD 0)) := (hnx.cell (p := ⟨b, off + k, none⟩) hb).trans hcx
      obtain ⟨X, hX⟩ : ∃ X, zs[k]?.getD 0 = X := ⟨_, rfl⟩
      obtain ⟨fn, tmps, assign, body, hy, hR⟩ := hY _ (k, X) wr hJs (by rw [upto_length]; exact hlt)
      dsimp only at hy
      rw [hX] at hcx'
      have HX := Lib.hid hX
      clear hcx hX
      gi_wp2
      refine hR.mono ?_
      rintro e W3 (⟨rfl, hJ3, hk3⟩ | ⟨rfl, hJx3⟩)
      · gi_wp2
        go_roundw
        case rel => exact ⟨k + 1, by omega, by simp, by rw [upto_succ, HX.out]; exact hJ3, hnx.trans hk3⟩
        case measure => simp [intOf]; omega
      · gi_wp2
        refine bodyPost_ret (results_none rfl _ _ _) rfl ?_
        exact ⟨⟨_, rfl⟩, .inr ⟨_, ⟨k + 1, by omega, by rw [upto_succ, HX.out]⟩, hJx3⟩⟩
    · obtain rfl : k = zs.length := by omega
      gi_wp2
      go_end0
      exact ⟨⟨_, rfl⟩, .inl ⟨_, rfl, hJs⟩⟩

set_option maxHeartbeats 1000000 in
theorem turns_in (F : Fence) (n : Nat) (h6 : F.fn 46) (hro : F.round = none) (a : Option Addr) (len cap : Nat) (w : World) :
    CallsIn F n Try.prog 46 #[.slice a len cap] w fun e w' => e = .returned (.func (.func 53) #[] #[.pointer (some ⟨w.heap.size, 0, none⟩)]) ∧ w' = w.alloc (.cells #[.slice a len cap] 29) := by
  refine callsIn_of_wp Try.func46 rfl h6 ?_ hro
  simp only [Try.ntmps46, List.size_toArray, List.length_cons, List.length_nil, Nat.reduceAdd, Nat.reduceSub, Array.replicate_succ, Array.replicate_zero, List.push_toArray, List.append_toArray, List.nil_append, List.cons_append]
  gi_wp2
  go_ret
  exact ⟨rfl, rfl⟩

theorem turns_stops (F : Fence) (n : Nat) (h8 : F.fn 53) (hro : F.round = none) (hn : 1 ≤ n) (Bs n₀ cap : Nat) (A : Option Addr) (zs : List Int) (hreach : zs.length ≤ 1000) (w : World) (hBs : Bs < w.heap.size) (hn₀ : n₀ ≤ w.heap.size)
    (hc : w.cell? ⟨Bs, 0, none⟩ = some (.slice A zs.length cap)) (hI : IntsAt n₀ w A zs) :
    SeqStopsK F n Try.prog 53 #[.pointer (some ⟨Bs, 0, none⟩)] (fun x : Nat × Int => #[Value.int .i64 (x.1 : Int), Value.int .i64 x.2]) (Below n₀) (fun ys => ys = upto (fun j => (j, zs[j]?.getD 0)) zs.length)
      (fun pre => ∃ k, k ≤ zs.length ∧ pre = upto (fun j => (j, zs[j]?.getD 0)) k) zs.length w := fun l J Jx W hW _ _ hY h0 =>
  turns1_in F n h8 hro hn l Bs n₀ cap A zs hreach J Jx hY W ((hW.cell (p := ⟨Bs, 0, none⟩) hBs).trans hc) (hI.below (hW.mono hn₀)) h0

/-- Is an announcement of process q pending? -/
def pendB (s q : Int) (zs : List Int) : Bool := decide (0 ≤ q ∧ q < zs.length ∧ zs[q.toNat]?.getD 0 < s)

set_option maxRecDepth 100000 in
set_option maxHeartbeats 2000000 in
theorem pending_in (F : Fence) (n : Nat) (h4 : F.fn 30) (h6 : F.fn 46) (h8 : F.fn 53) (hro : F.round = none) (hn : 3 ≤ n) (s k me q : Int) (A1 A2 : Option Addr) (n1 c1 n2 c2 : Nat) (a : Option Addr) (cap : Nat) (zs : List Int) (hreach : zs.length ≤ 1000) (w : World) (hI : IntsAt w.heap.size w a zs) :
    CallsIn F n Try.prog 30 #[.agg #[.int .i64 s, .int .u8 k, .int .i64 me, .slice A1 n1 c1, .slice A2 n2 c2], .int .i64 q, .slice a zs.length cap] w fun e W' =>
      e = .returned (.bool (pendB s q zs)) ∧ Below w.heap.size w W' := by
  have h1 : 1 ≤ n := by omega
  refine callsIn_of_wp_marks Try.func30 rfl h4 ?_ hro
  simp only [Try.ntmps30, List.size_toArray, List.length_cons, List.length_nil, Nat.reduceAdd, Nat.reduceSub, Array.replicate_succ, Array.replicate_zero, List.push_toArray, List.append_toArray, List.nil_append, List.cons_append]
  gi_wp2_with (gi_at_call 46; refine (turns_in F (n - 1) h6 hro _ _ _ _).mono ?_; rintro e w' ⟨rfl, rfl⟩)
  have bA : (w.alloc (.cells #[.int .i64 s, .int .u8 k, .int .i64 me, .slice A1 n1 c1, .slice A2 n2 c2] 60)).cell? ⟨w.heap.size, 0, none⟩ = some (.int .i64 s) := by simp
  have bQ := Boxed.new (w.alloc (.cells #[.int .i64 s, .int .u8 k, .int .i64 me, .slice A1 n1 c1, .slice A2 n2 c2] 60)) 3 (.int .i64 q)
  obtain ⟨W0, hW0⟩ : ∃ W0, (((w.alloc (.cells #[.int .i64 s, .int .u8 k, .int .i64 me, .slice A1 n1 c1, .slice A2 n2 c2] 60)).alloc (.cells #[.int .i64 q] 3)).alloc (.cells #[.bool false] 4)).alloc (.cells #[.slice a zs.length cap] 29) = W0 := ⟨_, rfl⟩
  have z0 : W0.heap.size = w.heap.size + 4 := by rw [← hW0]; simp [go_sem]
  have d0 : W0.cell? ⟨w.heap.size, 0, none⟩ = some (.int .i64 s) := by rw [← hW0]; simp [go_sem]
  have d1 : W0.cell? ⟨w.heap.size + 1, 0, none⟩ = some (.int .i64 q) := by rw [← hW0]; simp [go_sem]
  have d2 : W0.cell? ⟨w.heap.size + 1 + 1, 0, none⟩ = some (.bool false) := by rw [← hW0]; simp [go_sem]
  have d3 : W0.cell? ⟨w.heap.size + 1 + 1 + 1, 0, none⟩ = some (.slice a zs.length cap) := by rw [← hW0]; simp [go_sem]
  have f2 : W0.frozen? ⟨w.heap.size + 1 + 1, 0, none⟩ = false := by rw [← hW0]; simp [go_sem]
  have hB0 : Below w.heap.size w W0 := by rw [← hW0]; go_grown
  rw [hW0]
  clear hW0 bA bQ
  refine wpIn_rangeFunc_ownG hro h1 (gf := 53) (lb := #[.pointer (some ⟨w.heap.size + 1 + 1 + 1, 0, none⟩)]) rfl h8 (enters_of Try.func53 (by kernel_rfl) rfl)
    (turns_stops F (n - 1) h8 hro (by omega) (w.heap.size + 1 + 1 + 1) w.heap.size cap a zs hreach W0 (by omega) (by omega) d3 (hI.below hB0)) belowK_t (belowK_b (by omega)) (Below.refl _ _) (fun _ => rfl)
    (fun pre W => ((∀ p ∈ pre, (p.1 : Int) ≠ q) ∧ W.cell? ⟨w.heap.size, 0, none⟩ = some (.int .i64 s) ∧ W.cell? ⟨w.heap.size + 1, 0, none⟩ = some (.int .i64 q) ∧ W.cell? ⟨w.heap.size + 1 + 1, 0, none⟩ = some (.bool false) ∧ W.frozen? ⟨w.heap.size + 1 + 1, 0, none⟩ = false) ∧ Below w.heap.size w W)
    (fun c pre W => (c = .ret ∧ ∃ ini last, pre = ini ++ [last] ∧ ((last.1 : Int) = q) ∧ W.cell? ⟨w.heap.size + 1 + 1, 0, none⟩ = some (.bool (decide (last.2 < s)))) ∧ Below w.heap.size w W)
    (OwnFrom.and (Own.from (fun s A B row hs hg hr => ⟨hs.1, cell_kept hs.2.1 hg hr, cell_kept hs.2.2.1 hg hr, cell_kept hs.2.2.2.1 hg hr, (frozen_kept hs.2.2.2.1 hg hr).trans hs.2.2.2.2⟩) _) (ownFrom_below (Nat.le_refl _) (by omega)))
    (fun c => OwnFrom.and (Own.from (fun s A B row hs hg hr => by obtain ⟨hc, ini, last, e1, e2, e3⟩ := hs; exact ⟨hc, ini, last, e1, e2, cell_kept e3 hg hr⟩) _) (ownFrom_below (Nat.le_refl _) (by omega)))
    ⟨⟨by simp, d0, d1, d2, f2⟩, hB0⟩
    (fun x => { tmps := #[.agg #[.int .i64 s, .int .u8 k, .int .i64 me, .slice A1 n1 c1, .slice A2 n2 c2], .int .i64 q, .slice a zs.length cap, .pointer (some ⟨w.heap.size, 0, none⟩), .pointer (some ⟨w.heap.size + 1, 0, none⟩), undef, .pointer (some ⟨w.heap.size + 1 + 1, 0, none⟩), .int .i64 (x.1 : Int), .int .i64 x.2, .slice a zs.length cap, .func (.func 53) #[] #[.pointer (some ⟨w.heap.size + 1 + 1 + 1, 0, none⟩)], .int .i64 (x.1 : Int), .int .i64 x.2, undef, undef, undef, undef, undef, undef, undef], defers := [] }) ?assign ?body ?done ?stop
  case assign =>
    intro l x W K hK
    gi_wp2
    exact hK
  case body =>
    rintro l pre x W ⟨⟨hp, c0, c1, c2, g2⟩, hB⟩ _
    by_cases hx : (x.1 : Int) = q
    · have e1 : ((x.1 : Int) == q) = true := by rw [beq_iff_eq]; exact hx
      have HX := Lib.hid hx
      clear hx
      gi_wp2
      exact ⟨(KeepsOthers.setCell _ _ _).from _, ⟨rfl, pre, x, rfl, HX.out, World.cell?_setCell_same' _ _ _ (by rw [c2]; rfl)⟩, hB.setCell (p := ⟨w.heap.size + 1 + 1, 0, none⟩) (by show w.heap.size ≤ w.heap.size + 1 + 1; omega) _⟩
    · have e1 : ((x.1 : Int) == q) = false := by rw [beq_eq_false_iff_ne]; exact hx
      have HX : Hid ((x.1 : Int) ≠ q) := Lib.hid hx
      clear hx
      gi_wp2
      exact ⟨KeepsFrom.refl _ _, Below.refl _ _, ⟨fun p hp' => (List.mem_append.1 hp').elim (hp p) (fun e => by simp at e; subst e; exact HX.out), c0, c1, c2, g2⟩, hB⟩
  case done =>
    rintro D ys W hD rfl ⟨⟨hne, c0, c1, hcr, hfr⟩, hB⟩ hK
    gi_wp2
    have hK' := (KeepsOthers.setCell W ⟨w.heap.size + 1 + 1, 0, none⟩ (.bool false)).same D _ hK rfl
    refine ⟨by simp, .inl ⟨_, _, rfl, run_takeDeferred hK', ?_⟩⟩
    have hc5 := cell_kept (World.cell?_setCell_same' W ⟨w.heap.size + 1 + 1, 0, none⟩ (.bool false) (by rw [hcr]; rfl)) (grownBy_putObj' _ D (.deferred none)) (fun r e => by cases e; exact ⟨_, hK', rfl⟩)
    have hp : pendB s q zs = false := by
      unfold pendB
      rw [decide_eq_false_iff_not]
      rintro ⟨p0, p1, -⟩
      refine hne (q.toNat, zs[q.toNat]?.getD 0) ?_ (by simp; omega)
      simp only [upto, List.mem_map, List.mem_range]
      exact ⟨q.toNat, by omega, rfl⟩
    refine ⟨.bool false, ?_, by rw [hp], (hB.setCell (p := ⟨w.heap.size + 1 + 1, 0, none⟩) (by show w.heap.size ≤ w.heap.size + 1 + 1; omega) _).trans (belowK_b (w := w) (Nat.le_refl _) _ D _ _ (by omega) hK' rfl rfl)⟩
    simp [results, Try.f30, go_sem, hc5]
  case stop =>
    rintro D c pre W hD ⟨k', hk, rfl⟩ ⟨⟨rfl, ini, last, e1, e2, hcr⟩, hB⟩ hK
    gi_wp2
    refine ⟨by simp, .inl ⟨_, _, rfl, run_takeDeferred hK, ?_⟩⟩
    have hc5 := cell_kept hcr (grownBy_putObj' _ D (.deferred none)) (fun r e => by cases e; exact ⟨_, hK, rfl⟩)
    obtain ⟨k2, rfl⟩ : ∃ k2, k' = k2 + 1 := by
      cases k' with
      | zero => simp [upto] at e1
      | succ k2 => exact ⟨k2, rfl⟩
    rw [upto_succ] at e1
    obtain ⟨rfl, e5⟩ := List.append_inj' e1 rfl
    obtain rfl : (k2, zs[k2]?.getD 0) = last := by simpa using e5
    have hp : pendB s q zs = decide (zs[k2]?.getD 0 < s) := by
      unfold pendB
      simp only at e2
      rw [decide_eq_decide, show q.toNat = k2 by omega]
      constructor
      · exact fun h => h.2.2
      · exact fun h => ⟨by omega, by omega, h⟩
    refine ⟨.bool (decide (zs[k2]?.getD 0 < s)), ?_, by rw [hp], hB.trans (belowK_b (w := w) (Nat.le_refl _) W D _ _ (by omega) hK rfl rfl)⟩
    simp [results, Try.f30, go_sem, hc5]

/-- Pending, as a contract. -/
theorem pending_any (s k me q : Int) (A1 A2 : Option Addr) (n1 c1 n2 c2 : Nat) (a : Option Addr) (cap : Nat) (zs : List Int) (hreach : zs.length ≤ 1000) (w : World) (hI : IntsAt w.heap.size w a zs) :
    Calls Try.prog 30 #[.agg #[.int .i64 s, .int .u8 k, .int .i64 me, .slice A1 n1 c1, .slice A2 n2 c2], .int .i64 q, .slice a zs.length cap] w fun e W' =>
      e = .returned (.bool (pendB s q zs)) ∧ Below w.heap.size w W' :=
  (callsIn_wide (n := 3)).1 (pending_in Fence.wide 3 True.intro True.intro True.intro rfl (Nat.le_refl _) s k me q A1 A2 n1 c1 n2 c2 a cap zs hreach w hI)
#print axioms pending_any

end Go.Proofs.Ytkjmnmcekhnkmab
