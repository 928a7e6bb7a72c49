/- L indices one behind the other have unlike places; two indices have one place just if they are a multiple of L apart: the law's walk. -/
import Derived.Test.YtkjmnmcekhnkmaaSlotW
import Derived.OwnWalk
import Derived.Carry
import Derived.OpenShut
namespace Go.Proofs.Ytkjmnmcekhnkmaa.Sl
open Go.RowKit
set_option linter.unusedSimpArgs false
set_option linter.unusedVariables false

theorem ret_bool {x y : Bool} (h : x = y) : Ending.returned (.bool x) = .returned (.bool y) := by rw [h]

/-- Two numbers with one remainder that are closer than the modulus are one. -/
theorem apart_one {x y l : Int} (hl : 1 ≤ l) (h : x % l = y % l) (h1 : x - y < l) (h2 : y - x < l) : x = y := by
  have hx := Int.mul_ediv_add_emod x l
  have hy := Int.mul_ediv_add_emod y l
  have hd : l * (x / l - y / l) = x - y := by rw [Int.mul_sub]; omega
  rcases Int.lt_trichotomy (x / l - y / l) 0 with hq | hq | hq
  · have : l * (x / l - y / l) ≤ l * (-1) := Int.mul_le_mul_of_nonneg_left (by omega) (by omega)
    omega
  · rw [hq] at hd; omega
  · have : l * 1 ≤ l * (x / l - y / l) := Int.mul_le_mul_of_nonneg_left (by omega) (by omega)
    omega

theorem apart_back (from_ l more : Int) (hm0 : 0 ≤ more) (hl : 1 ≤ l) :
    ((((from_ - 1) % l) == ((from_ + more - 1) % l)) == (more % l == 0)) = true := by
  have key : (from_ - 1) % l = (from_ + more - 1) % l ↔ more % l = 0 := by
    constructor
    · intro h
      have e : more = (from_ + more - 1) - (from_ - 1) := by omega
      rw [e, Int.sub_emod, ← h, Int.sub_self, Int.zero_emod]
    · intro h
      have e : from_ + more - 1 = (from_ - 1) + more := by omega
      rw [e, Int.add_emod, h, Int.add_zero, Int.emod_emod_of_dvd _ (Int.dvd_refl l)]
  by_cases h : more % l = 0
  · have := key.2 h
    simp [this, h]
  · have : ¬ (from_ - 1) % l = (from_ + more - 1) % l := fun e => h (key.1 e)
    have e1 : ((from_ - 1) % l == (from_ + more - 1) % l) = false := by rw [beq_eq_false_iff_ne]; exact this
    have e2 : (more % l == 0) = false := by rw [beq_eq_false_iff_ne]; exact h
    rw [e1, e2]; rfl

theorem place_in {i l : Int} (hi : 1 ≤ i) (hl : 1 ≤ l) : placeV i l = (i - 1) % l := by unfold placeV; rw [if_neg (by omega)]

/-- What has been met: the places of the first k indices, and no other one. -/
def Met (from_ l k : Int) (met : List Bool) : Prop :=
  (met.length : Int) = l ∧ ∀ a : Nat, (a : Int) < l → (met.getD a false = true ↔ ∃ j : Int, 0 ≤ j ∧ j < k ∧ (from_ + j - 1) % l = a)

theorem Met.new {from_ l k : Int} {met : List Bool} (h : Met from_ l k met) (hl : 1 ≤ l) (h0 : 0 ≤ k) (h1 : k < l) : met.getD ((from_ + k - 1) % l).toNat false = false := by
  have hp0 := Int.emod_nonneg (from_ + k - 1) (show l ≠ 0 by omega)
  have hp1 := Int.emod_lt_of_pos (from_ + k - 1) (show 0 < l by omega)
  rw [Bool.eq_false_iff]
  intro hc
  obtain ⟨j, j0, j1, j2⟩ := (h.2 _ (by omega)).1 hc
  rw [Int.toNat_of_nonneg hp0] at j2
  have := apart_one hl j2 (by omega) (by omega)
  omega

theorem Met.step {from_ l k : Int} {met : List Bool} (h : Met from_ l k met) (hl : 1 ≤ l) (h0 : 0 ≤ k) (h1 : k < l) : Met from_ l (k + 1) (met.set ((from_ + k - 1) % l).toNat true) := by
  have hp0 := Int.emod_nonneg (from_ + k - 1) (show l ≠ 0 by omega)
  have hp1 := Int.emod_lt_of_pos (from_ + k - 1) (show 0 < l by omega)
  refine ⟨by rw [List.length_set]; exact h.1, fun a ha => ?_⟩
  have hlen := h.1
  rw [List.getD_eq_getElem?_getD, List.getElem?_set]
  by_cases e : ((from_ + k - 1) % l).toNat = a
  · rw [if_pos e, if_pos (by omega)]
    exact ⟨fun _ => ⟨k, h0, by omega, by omega⟩, fun _ => rfl⟩
  · rw [if_neg e, ← List.getD_eq_getElem?_getD, h.2 a ha]
    constructor
    · rintro ⟨j, j0, j1, j2⟩; exact ⟨j, j0, by omega, j2⟩
    · rintro ⟨j, j0, j1, j2⟩
      refine ⟨j, j0, ?_, j2⟩
      rcases Int.lt_or_le j k with h' | h'
      · exact h'
      · obtain rfl : j = k := by omega
        omega

theorem Met.zero (from_ l : Int) (n : Nat) (h : (n : Int) = l) : Met from_ l 0 (List.replicate n false) := by
  refine ⟨by rw [List.length_replicate]; exact h, fun a ha => ⟨fun hc => ?_, fun ⟨j, j0, j1, _⟩ => by omega⟩⟩
  rw [List.getD_eq_getElem?_getD, List.getElem?_replicate] at hc
  split at hc <;> simp at hc

theorem info4 : (Try.prog.info? 4).map (fun i => (i.zero, i.size, i.bytes)) = some (some (.bool false), 1, 1) := by kernel_rfl

theorem made_bool (n : Nat) : (madeCells (Value.bool false).cells n).toList = List.replicate n (.bool false) := by
  apply List.ext_getElem?
  intro i
  unfold madeCells
  have hc : (Value.bool false).cells = #[.bool false] := rfl
  rw [hc]
  by_cases h : i < n <;> simp [h, Nat.mod_one]

/-- Where the statement asks nothing. -/
theorem apart_out (from_ l more : Int) (w : World) (h : from_ < 1 ∨ 1099511627776 < from_ ∨ l < 1 ∨ 300 < l ∨ more < 0 ∨ 1000 < more) :
    Calls Try.prog 3 #[.int .i64 from_, .int .i64 l, .int .i64 more] w fun e w' => e = .returned (.bool true) ∧ Below w.heap.size w w' := by
  by_cases h1 : from_ < 1
  · clear h
    go_enter Try.func3, Try.ntmps3
    go_wp2_with (go_at_call 10; refine (awake_any _).mono ?_; rintro e w' ⟨rfl, hb⟩)
    go_ret
    exact ⟨rfl, hb⟩
  by_cases h2 : 1099511627776 < from_
  · clear h
    go_enter Try.func3, Try.ntmps3
    go_wp2_with (go_at_call 10; refine (awake_any _).mono ?_; rintro e w' ⟨rfl, hb⟩)
    go_ret
    exact ⟨rfl, hb⟩
  by_cases h3 : l < 1
  · clear h
    go_enter Try.func3, Try.ntmps3
    go_wp2_with (go_at_call 10; refine (awake_any _).mono ?_; rintro e w' ⟨rfl, hb⟩)
    go_ret
    exact ⟨rfl, hb⟩
  by_cases h4 : 300 < l
  · clear h
    go_enter Try.func3, Try.ntmps3
    go_wp2_with (go_at_call 10; refine (awake_any _).mono ?_; rintro e w' ⟨rfl, hb⟩)
    go_ret
    exact ⟨rfl, hb⟩
  by_cases h5 : more < 0
  · clear h
    go_enter Try.func3, Try.ntmps3
    go_wp2_with (go_at_call 10; refine (awake_any _).mono ?_; rintro e w' ⟨rfl, hb⟩)
    go_ret
    exact ⟨rfl, hb⟩
  have h6 : 1000 < more := by omega
  clear h
  go_enter Try.func3, Try.ntmps3
  go_wp2_with (go_at_call 10; refine (awake_any _).mono ?_; rintro e w' ⟨rfl, hb⟩)
  go_ret
  exact ⟨rfl, hb⟩

set_option maxRecDepth 100000 in
set_option maxHeartbeats 4000000 in
theorem apart_in (from_ more : Int) (n : Nat) (w : World) (f1 : 1 ≤ from_) (f2 : from_ ≤ 1099511627776) (l1 : 1 ≤ n) (l2 : n ≤ 300) (m1 : 0 ≤ more) (m2 : more ≤ 1000) :
    Calls Try.prog 3 #[.int .i64 from_, .int .i64 n, .int .i64 more] w fun e w' => e = .returned (.bool true) ∧ Below w.heap.size w w' := by
  obtain ⟨i0, hi, hz0, hz1, hz2⟩ := info_parts info4
  have l3 : (1 : Int) ≤ (n : Int) := by omega
  have l4 : (n : Int) ≤ 300 := by omega
  have hb2 : i0.bytes * n ≤ 281474976710656 := by rw [hz2]; omega
  have hb3 : n ≤ maxLen := by unfold maxLen; omega
  go_enter Try.func3, Try.ntmps3
  go_wp2_with (first | (go_at_call 10; refine (awake_any _).mono ?_; rintro e w1 ⟨rfl, hb⟩; have hs1 := hb.size) | (refine wpList_make_full _ rfl _ _ 23 rfl w1.heap.size 4 i0 (.bool false) 1 Try.underlying23 hi hz0 hz1 .i64 .i64 (n : Int) (n : Int) n rfl rfl rfl rfl hb2 hb3 (Nat.le_refl _) ?_; intro w2 hown hgrow) | fail)
  have hown0 : w2.ownsRow w1.heap.size 4 1 (.slice (some ⟨w1.heap.size, 0, none⟩) n n) n ((List.replicate n false).map .bool) := by
    have e : (madeCells (Value.bool false).cells (n * 1)).toList = (List.replicate n false).map Value.bool := by
      rw [Nat.mul_one, List.map_replicate]; exact made_bool n
    rw [← e]; exact hown
  have HOWN := Lib.hid hown0
  have hB2 : Below w.heap.size w w2 := hb.grown hgrow (by omega) (fun k hk => by cases hk)
  clear hown hown0 hgrow
  go_loopw [8] (fun i wr => ∃ (k : Nat) (met : List Bool), k ≤ n ∧ i = .int .i64 k ∧ Met from_ n k met ∧ wr.ownsRow w1.heap.size 4 1 (.slice (some ⟨w1.heap.size, 0, none⟩) n n) n (met.map .bool) ∧ Below w.heap.size w wr) (fun i _ => n - (intOf i).toNat)
  case atStart => exact ⟨0, _, by omega, rfl, Met.zero from_ n n rfl, HOWN.out, hB2⟩
  case round =>
    obtain ⟨k, met, hk, rfl, hmet, hown, hB⟩ := hrel
    by_cases hlt : k < n
    · have hp := fun w => place_any (from_ + k) n w (by omega)
      rw [place_in (by omega) l3] at hp
      have hp0 := Int.emod_nonneg (from_ + k - 1) (show (n : Int) ≠ 0 by omega)
      have hp1 := Int.emod_lt_of_pos (from_ + k - 1) (show (0 : Int) < n by omega)
      have hnew := hmet.new l3 (by omega) (by omega)
      have hstep := hmet.step l3 (by omega) (by omega)
      have hlen := hmet.1
      generalize (from_ + k - 1) % (n : Int) = p at *
      have hc : wr.cell? ⟨w1.heap.size, p.toNat, none⟩ = some (.bool false) := by
        rw [hown.cellAt p.toNat (by omega), List.getElem?_map, ← hnew, List.getD_eq_getElem?_getD, List.getElem?_eq_getElem (by omega)]
        rfl
      have hf : wr.frozen? ⟨w1.heap.size, p.toNat, none⟩ = false := hown.frozenAt _
      have hst := (hown.stored p.toNat (.bool true)).1
      rw [← List.map_set] at hst
      have HST := Lib.hid hst
      have HP := Lib.hid hp
      have HM := Lib.hid hstep
      clear hown hst hp hstep hnew hmet hlen
      go_wp2_with (go_at_call 11; refine (HP.out _).mono ?_; rintro e w' ⟨rfl, hq⟩; subst hq)
      go_roundw
      case rel => exact ⟨k + 1, _, by omega, by go_num, by simpa using HM.out, HST.out, hB.setCell (by simpa using hs1) _⟩
      case measure => simp [intOf]; omega
    · have hbk := apart_back from_ n more m1 l3
      have HBK := Lib.hid hbk
      have hn0 : ¬ (n : Int) = 0 := by omega
      have hn1 : ((n : Int) == 0) = false := by rw [beq_eq_false_iff_ne]; exact hn0
      clear hmet hown hbk
      go_wp2_with fail
      go_quiet ((go_at_call 11; exact Calls.quiet_of_same (place_any _ _ _ (by omega))))
      go_wp2_with fail
      go_ret
      refine ⟨ret_bool ?_, below_drewN hB _⟩
      rw [place_in (by omega) l3, place_in (by omega) l3]
      exact HBK.out

set_option maxHeartbeats 4000000 in
theorem slotApart_walk (from_ l more : Int) (w : World) :
    Calls Try.prog 3 #[.int .i64 from_, .int .i64 l, .int .i64 more] w fun e w' => e = .returned (.bool true) ∧ Below w.heap.size w w' := by
  by_cases h : from_ < 1 ∨ 1099511627776 < from_ ∨ l < 1 ∨ 300 < l ∨ more < 0 ∨ 1000 < more
  · exact apart_out from_ l more w h
  · obtain ⟨n, rfl⟩ := Int.eq_ofNat_of_zero_le (show 0 ≤ l by omega)
    exact apart_in from_ more n w (by omega) (by omega) (by omega) (by omega) (by omega) (by omega)

end Go.Proofs.Ytkjmnmcekhnkmaa.Sl
