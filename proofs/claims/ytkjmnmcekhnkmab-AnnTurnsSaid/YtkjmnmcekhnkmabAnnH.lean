/- Of N indices one behind the other each process is helped at just one: the law's walk. -/
import Derived.Test.YtkjmnmcekhnkmabAnnG
namespace Go.Proofs.Ytkjmnmcekhnkmab
open Go.RowKit Go.Shelf
set_option linter.unusedSimpArgs false
set_option linter.unusedVariables false

/-- How often process p has been met in the first k rounds, the first index being of process s. -/
def vis (s n k p : Nat) : Int := if (s ≤ p ∧ p - s < k) ∨ (p < s ∧ p + n - s < k) then 1 else 0
theorem vis_zero (s n p : Nat) (hp : s < n) : vis s n 0 p = 0 := if_neg (by omega)
theorem vis_all (s n p : Nat) (hs : s < n) (hp : p < n) : vis s n n p = 1 := if_pos (by omega)
theorem vis_here (s n k q : Nat) (hs : s < n) (hk : k < n) (hq : q = if s + k < n then s + k else s + k - n) : vis s n k q = 0 ∧ vis s n (k + 1) q = 1 := by
  unfold vis
  split at hq
  · exact ⟨if_neg (by omega), if_pos (by omega)⟩
  · exact ⟨if_neg (by omega), if_pos (by omega)⟩
theorem vis_else (s n k p q : Nat) (hs : s < n) (hk : k < n) (hp : p < n) (hn : n ≤ 64) (hq : q = if s + k < n then s + k else s + k - n) (h : p ≠ q) : vis s n (k + 1) p = vis s n k p := by
  unfold vis
  have : ((s ≤ p ∧ p - s < k + 1) ∨ (p < s ∧ p + n - s < k + 1)) ↔ ((s ≤ p ∧ p - s < k) ∨ (p < s ∧ p + n - s < k)) := by
    split at hq <;> omega
  simp only [this]

theorem whose_step (fr : Int) (n k s : Nat) (h1 : 1 ≤ fr) (hn : 1 ≤ n) (hs : (fr - 1) % (n : Int) = s) (hk : k ≤ n) : whoseI (fr + k) n = ((if s + k < n then s + k else s + k - n : Nat) : Int) ∧ s < n := by
  have hp := Int.emod_lt_of_pos (fr - 1) (show (0 : Int) < n by omega)
  have hsn : s < n := by omega
  refine ⟨?_, hsn⟩
  rw [(whoseI_yes (by omega) (by omega)).1]
  have e : fr + (k : Int) - 1 = (fr - 1) + k := by omega
  rw [e, Int.add_emod, hs]
  by_cases hkn : k = n
  · subst hkn
    rw [Int.emod_self]
    simp only [Int.add_zero]
    rw [Int.emod_eq_of_lt (by omega) (by omega)]
    split <;> omega
  · have e1 : (k : Int) % n = k := Int.emod_eq_of_lt (by omega) (by omega)
    rw [e1]
    split
    · rw [Int.emod_eq_of_lt (by omega) (by omega)]; omega
    · rw [show (s : Int) + k = (s + k - n : Nat) + n * 1 by omega, Int.add_mul_emod_self_left, Int.emod_eq_of_lt (by omega) (by omega)]

/-- The counts' cells. -/
structure Cnt (w : World) (g s n k : Nat) : Prop where
  c : ∀ p, p < n → w.cell? ⟨g, p, none⟩ = some (.int .i64 (vis s n k p))
  f : ∀ o, w.frozen? ⟨g, o, none⟩ = false

theorem zero70 (w : World) : (zeroValue 70).run Try.prog w = .ok (.agg #[.int .i64 0, .int .i64 0, .int .i64 0, .int .i64 0, .int .i64 0, .int .i64 0, .int .i64 0, .int .i64 0, .int .i64 0, .int .i64 0, .int .i64 0, .int .i64 0, .int .i64 0, .int .i64 0, .int .i64 0, .int .i64 0, .int .i64 0, .int .i64 0, .int .i64 0, .int .i64 0, .int .i64 0, .int .i64 0, .int .i64 0, .int .i64 0, .int .i64 0, .int .i64 0, .int .i64 0, .int .i64 0, .int .i64 0, .int .i64 0, .int .i64 0, .int .i64 0, .int .i64 0, .int .i64 0, .int .i64 0, .int .i64 0, .int .i64 0, .int .i64 0, .int .i64 0, .int .i64 0, .int .i64 0, .int .i64 0, .int .i64 0, .int .i64 0, .int .i64 0, .int .i64 0, .int .i64 0, .int .i64 0, .int .i64 0, .int .i64 0, .int .i64 0, .int .i64 0, .int .i64 0, .int .i64 0, .int .i64 0, .int .i64 0, .int .i64 0, .int .i64 0, .int .i64 0, .int .i64 0, .int .i64 0, .int .i64 0, .int .i64 0, .int .i64 0]) w := by kernel_rfl
theorem cells70 : #[Value.int .i64 0, Value.int .i64 0, Value.int .i64 0, Value.int .i64 0, Value.int .i64 0, Value.int .i64 0, Value.int .i64 0, Value.int .i64 0, Value.int .i64 0, Value.int .i64 0, Value.int .i64 0, Value.int .i64 0, Value.int .i64 0, Value.int .i64 0, Value.int .i64 0, Value.int .i64 0, Value.int .i64 0, Value.int .i64 0, Value.int .i64 0, Value.int .i64 0, Value.int .i64 0, Value.int .i64 0, Value.int .i64 0, Value.int .i64 0, Value.int .i64 0, Value.int .i64 0, Value.int .i64 0, Value.int .i64 0, Value.int .i64 0, Value.int .i64 0, Value.int .i64 0, Value.int .i64 0, Value.int .i64 0, Value.int .i64 0, Value.int .i64 0, Value.int .i64 0, Value.int .i64 0, Value.int .i64 0, Value.int .i64 0, Value.int .i64 0, Value.int .i64 0, Value.int .i64 0, Value.int .i64 0, Value.int .i64 0, Value.int .i64 0, Value.int .i64 0, Value.int .i64 0, Value.int .i64 0, Value.int .i64 0, Value.int .i64 0, Value.int .i64 0, Value.int .i64 0, Value.int .i64 0, Value.int .i64 0, Value.int .i64 0, Value.int .i64 0, Value.int .i64 0, Value.int .i64 0, Value.int .i64 0, Value.int .i64 0, Value.int .i64 0, Value.int .i64 0, Value.int .i64 0, Value.int .i64 0] = (List.replicate 64 (Value.int .i64 0)).toArray := by kernel_rfl

theorem cnt_new (w : World) (s n : Nat) (hs : s < n) (hn : n ≤ 64) : Cnt (w.alloc (.cells #[.int .i64 0, .int .i64 0, .int .i64 0, .int .i64 0, .int .i64 0, .int .i64 0, .int .i64 0, .int .i64 0, .int .i64 0, .int .i64 0, .int .i64 0, .int .i64 0, .int .i64 0, .int .i64 0, .int .i64 0, .int .i64 0, .int .i64 0, .int .i64 0, .int .i64 0, .int .i64 0, .int .i64 0, .int .i64 0, .int .i64 0, .int .i64 0, .int .i64 0, .int .i64 0, .int .i64 0, .int .i64 0, .int .i64 0, .int .i64 0, .int .i64 0, .int .i64 0, .int .i64 0, .int .i64 0, .int .i64 0, .int .i64 0, .int .i64 0, .int .i64 0, .int .i64 0, .int .i64 0, .int .i64 0, .int .i64 0, .int .i64 0, .int .i64 0, .int .i64 0, .int .i64 0, .int .i64 0, .int .i64 0, .int .i64 0, .int .i64 0, .int .i64 0, .int .i64 0, .int .i64 0, .int .i64 0, .int .i64 0, .int .i64 0, .int .i64 0, .int .i64 0, .int .i64 0, .int .i64 0, .int .i64 0, .int .i64 0, .int .i64 0, .int .i64 0] 70)) w.heap.size s n 0 := by
  refine ⟨fun p hp => ?_, fun o => World.frozen?_alloc_new ..⟩
  rw [cells70, World.cell?_alloc_new, vis_zero s n p hs, List.getElem?_toArray, List.getElem?_replicate, if_pos (by omega)]

theorem Cnt.step {w : World} {g s n k q : Nat} (h : Cnt w g s n k) (hs : s < n) (hk : k < n) (hn : n ≤ 64) (hq : q = if s + k < n then s + k else s + k - n) (hq2 : q < n) :
    Cnt (w.setCell ⟨g, q, none⟩ (.int .i64 1)) g s n (k + 1) := by
  obtain ⟨v0, v1⟩ := vis_here s n k q hs hk hq
  refine ⟨fun p hp => ?_, fun o => by rw [World.frozen?_setCell]; exact h.f o⟩
  by_cases e : p = q
  · rw [e, v1]
    exact World.cell?_setCell_same' _ _ _ (by rw [h.c q hq2]; rfl)
  · rw [World.cell?_setCell_other _ _ _ _ (by intro e'; injection e' with e1 e2; omega), vis_else s n k p q hs hk hp hn hq e]
    exact h.c p hp

set_option maxRecDepth 100000 in
set_option maxHeartbeats 4000000 in
theorem turns_out (fr n : Int) (w : World) (h : fr < 1 ∨ 1099511627776 < fr ∨ n < 1 ∨ 64 < n) :
    Calls Try.prog 8 #[.int .i64 fr, .int .i64 n] w fun e w' => e = .returned (.bool true) ∧ Below w.heap.size w w' := by
  by_cases h1 : fr < 1
  · clear h
    go_enter Try.func8, Try.ntmps8
    go_wp2_with (go_at_call 35; refine (awake22_any _).mono ?_; rintro e w' ⟨rfl, hb⟩)
    go_ret
    exact ⟨rfl, hb⟩
  by_cases h2 : 1099511627776 < fr
  · clear h
    go_enter Try.func8, Try.ntmps8
    go_wp2_with (go_at_call 35; refine (awake22_any _).mono ?_; rintro e w' ⟨rfl, hb⟩)
    go_ret
    exact ⟨rfl, hb⟩
  by_cases h3 : n < 1
  · clear h
    go_enter Try.func8, Try.ntmps8
    go_wp2_with (go_at_call 35; refine (awake22_any _).mono ?_; rintro e w' ⟨rfl, hb⟩)
    go_ret
    exact ⟨rfl, hb⟩
  have h4 : 64 < n := by omega
  clear h
  go_enter Try.func8, Try.ntmps8
  go_wp2_with (go_at_call 35; refine (awake22_any _).mono ?_; rintro e w' ⟨rfl, hb⟩)
  go_ret
  exact ⟨rfl, hb⟩

set_option maxRecDepth 100000 in
set_option maxHeartbeats 4000000 in
theorem turns_law (fr : Int) (n : Nat) (w : World) (h1 : 1 ≤ fr) (h2 : fr ≤ 1099511627776) (h3 : 1 ≤ n) (h4 : n ≤ 64) :
    Calls Try.prog 8 #[.int .i64 fr, .int .i64 n] w fun e w' => e = .returned (.bool true) ∧ Below w.heap.size w w' := by
  have hz := zero70
  obtain ⟨s, hs⟩ := Int.eq_ofNat_of_zero_le (Int.emod_nonneg (fr - 1) (show (n : Int) ≠ 0 by omega))
  have hst := fun k hk => whose_step fr n k s h1 h3 hs hk
  have hsn : s < n := (hst 0 (by omega)).2
  have HST := Lib.hid hst
  have HN := fun W => cnt_new W s n hsn h4
  have HNEW := Lib.hid HN
  have n1 : (1 : Int) ≤ (n : Int) := by omega
  have n2 : (n : Int) ≤ 64 := by omega
  clear hst hs HN
  go_enter Try.func8, Try.ntmps8
  go_wp2_with (go_at_call 35; refine (awake22_any _).mono ?_; rintro e w1 ⟨rfl, hb⟩)
  have hc0 := HNEW.out w1
  have hB0 : Below w.heap.size w (w1.alloc (.cells #[.int .i64 0, .int .i64 0, .int .i64 0, .int .i64 0, .int .i64 0, .int .i64 0, .int .i64 0, .int .i64 0, .int .i64 0, .int .i64 0, .int .i64 0, .int .i64 0, .int .i64 0, .int .i64 0, .int .i64 0, .int .i64 0, .int .i64 0, .int .i64 0, .int .i64 0, .int .i64 0, .int .i64 0, .int .i64 0, .int .i64 0, .int .i64 0, .int .i64 0, .int .i64 0, .int .i64 0, .int .i64 0, .int .i64 0, .int .i64 0, .int .i64 0, .int .i64 0, .int .i64 0, .int .i64 0, .int .i64 0, .int .i64 0, .int .i64 0, .int .i64 0, .int .i64 0, .int .i64 0, .int .i64 0, .int .i64 0, .int .i64 0, .int .i64 0, .int .i64 0, .int .i64 0, .int .i64 0, .int .i64 0, .int .i64 0, .int .i64 0, .int .i64 0, .int .i64 0, .int .i64 0, .int .i64 0, .int .i64 0, .int .i64 0, .int .i64 0, .int .i64 0, .int .i64 0, .int .i64 0, .int .i64 0, .int .i64 0, .int .i64 0, .int .i64 0] 70)) := hb.alloc hb.size _
  have hgl : w.heap.size ≤ w1.heap.size := hb.size
  generalize w1.alloc (.cells #[.int .i64 0, .int .i64 0, .int .i64 0, .int .i64 0, .int .i64 0, .int .i64 0, .int .i64 0, .int .i64 0, .int .i64 0, .int .i64 0, .int .i64 0, .int .i64 0, .int .i64 0, .int .i64 0, .int .i64 0, .int .i64 0, .int .i64 0, .int .i64 0, .int .i64 0, .int .i64 0, .int .i64 0, .int .i64 0, .int .i64 0, .int .i64 0, .int .i64 0, .int .i64 0, .int .i64 0, .int .i64 0, .int .i64 0, .int .i64 0, .int .i64 0, .int .i64 0, .int .i64 0, .int .i64 0, .int .i64 0, .int .i64 0, .int .i64 0, .int .i64 0, .int .i64 0, .int .i64 0, .int .i64 0, .int .i64 0, .int .i64 0, .int .i64 0, .int .i64 0, .int .i64 0, .int .i64 0, .int .i64 0, .int .i64 0, .int .i64 0, .int .i64 0, .int .i64 0, .int .i64 0, .int .i64 0, .int .i64 0, .int .i64 0, .int .i64 0, .int .i64 0, .int .i64 0, .int .i64 0, .int .i64 0, .int .i64 0, .int .i64 0, .int .i64 0] 70) = W0 at *
  generalize w1.heap.size = g at *
  have HC0 := Lib.hid hc0
  clear hc0 hb HNEW
  go_loopw [6] (fun i wr => ∃ k : Nat, k ≤ n ∧ i = .int .i64 k ∧ Cnt wr g s n k ∧ Below w.heap.size w wr) (fun i _ => n - (intOf i).toNat)
  case atStart => exact ⟨0, by omega, rfl, HC0.out, hB0⟩
  case round =>
    obtain ⟨k, hk, rfl, hc, hB⟩ := hrel
    by_cases hlt : k < n
    · obtain ⟨q, hq⟩ : ∃ q : Nat, q = if s + k < n then s + k else s + k - n := ⟨_, rfl⟩
      have hqn : q < n := by split at hq <;> omega
      have hwh := (HST.out k hk).1
      rw [← hq] at hwh
      have hca : Calls Try.prog 29 #[.int .i64 (fr + k), .int .i64 n] wr fun e w' => e = .returned (.int .i64 q) ∧ w' = wr := by
        have := whose_any (fr + k) n wr (by omega) (by omega)
        rw [hwh] at this
        exact this
      have hv := (vis_here s n k q hsn hlt hq).1
      have x0 : wr.cell? ⟨g, q, none⟩ = some (.int .i64 0) := by rw [hc.c q (by omega), hv]
      have f0 : wr.frozen? ⟨g, q, none⟩ = false := hc.f q
      have hc1 := hc.step hsn hlt h4 hq (by omega)
      have HC1 := Lib.hid hc1
      have HCA := Lib.hid hca
      have q1 : (q : Int) < 64 := by omega
      have q2 : (q : Int) < n := by omega
      have q3 : (0 : Int) ≤ q := by omega
      clear hc hc1 hca hv hq hwh
      go_wp2_with (go_at_call 29; refine HCA.out.mono ?_; rintro e w' ⟨rfl, hq⟩; subst hq)
      go_roundw
      case rel => exact ⟨k + 1, by omega, by go_num, HC1.out, hB.setCell (by exact hgl) _⟩
      case measure => simp [intOf]; omega
    · obtain rfl : k = n := by omega
      have hall : ∀ p, p < k → wr.cell? ⟨g, p, none⟩ = some (.int .i64 1) := fun p hp => by rw [hc.c p (by omega), vis_all s k p hsn hp]
      have HALL := Lib.hid hall
      clear hall hc
      go_wp2_with fail
      go_loop [8] (fun p => ∃ j : Nat, j ≤ k ∧ p = .int .i64 j) (fun p => k - (intOf p).toNat)
      case atStart => exact ⟨0, by omega, rfl⟩
      case round =>
        obtain ⟨j, hj, rfl⟩ := hrel
        by_cases hlt2 : j < k
        · have hx := HALL.out j hlt2
          go_wp2_with fail
          go_round
          case rel => exact ⟨j + 1, by omega, by go_num⟩
          case measure => simp [intOf]; omega
        · have ha : Calls Try.prog 29 #[.int .i64 (fr + k), .int .i64 k] wr fun e w' => e = .returned (.int .i64 s) ∧ w' = wr := by
            have := whose_any (fr + k) k wr (by omega) (by omega)
            rw [(HST.out k (by omega)).1, if_neg (by omega), show s + k - k = s by omega] at this
            exact this
          have hb : Calls Try.prog 29 #[.int .i64 fr, .int .i64 k] wr fun e w' => e = .returned (.int .i64 s) ∧ w' = wr := by
            have := whose_any fr k wr (by omega) (by omega)
            have e := (HST.out 0 (by omega)).1
            rw [if_pos (by omega)] at e
            simp only [Int.add_zero, Nat.add_zero, Int.natCast_zero, Int.ofNat_zero] at e
            rw [e] at this
            exact this
          have HA := Lib.hid ha
          have HB := Lib.hid hb
          clear ha hb
          go_wp2_with fail
          refine HA.out.mono ?_
          rintro e w' ⟨rfl, hq⟩
          subst hq
          go_wp2_with fail
          refine HB.out.mono ?_
          rintro e w' ⟨rfl, hq⟩
          subst hq
          go_wp2_with fail
          go_ret
          exact ⟨an_bool (by simp), hB⟩

theorem annTurns_walk (fr n : Int) (w : World) : Calls Try.prog 8 #[.int .i64 fr, .int .i64 n] w fun e w' => e = .returned (.bool true) ∧ Below w.heap.size w w' := by
  by_cases h : fr < 1 ∨ 1099511627776 < fr ∨ n < 1 ∨ 64 < n
  · exact turns_out fr n w h
  · obtain ⟨k, rfl⟩ := Int.eq_ofNat_of_zero_le (show 0 ≤ n by omega)
    exact turns_law fr k w (by omega) (by omega) (by omega) (by omega)
#print axioms annTurns_walk
end Go.Proofs.Ytkjmnmcekhnkmab
