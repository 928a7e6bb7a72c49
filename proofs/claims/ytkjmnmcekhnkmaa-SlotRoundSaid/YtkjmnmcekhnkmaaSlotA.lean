/- Places and slots (package slot), as contracts, and the chapter's examples (awake): for every index and arena. -/
import Derived.Test.YtkjmnmcekhnkmaaProg
import Derived.WalkKit
import Derived.WalkLawsBesides
import Derived.KernelRfl
import Derived.Lib.Hide
import Derived.Handy
import Derived.Deep.RegionHeld3
import Derived.Deep.QuietTactic
import Derived.BigQuiet
import Derived.Deep.DeepCutAuto
namespace Go.Proofs.Ytkjmnmcekhnkmaa.Sl
open Go.RowKit
set_option linter.unusedSimpArgs false
set_option linter.unusedVariables false

theorem ret_int {a b : Int} (h : a = b) : Ending.returned (.int .i64 a) = .returned (.int .i64 b) := by rw [h]
theorem ret_u8 {a b : Int} (h : a = b) : Ending.returned (.int .u8 a) = .returned (.int .u8 b) := by rw [h]
theorem below_after {w W w1 : World} (h0 : Below w.heap.size w W) (hb : Below W.heap.size W w1) : Below w.heap.size w w1 := h0.trans (hb.mono h0.size)

/-- Where an index's entry stands. -/
def placeV (i l : Int) : Int := if i < 1 ∨ l < 1 then -1 else (i - 1) % l

theorem place_any (i l : Int) (w : World) (hi : i ≤ 9223372036854775807) : Calls Try.prog 11 #[.int .i64 i, .int .i64 l] w fun e w' => e = .returned (.int .i64 (placeV i l)) ∧ w' = w := by
  unfold placeV
  by_cases h1 : i < 1
  · rw [if_pos (.inl h1)]
    go_enter Try.func11, Try.ntmps11
    go_wp2
    go_ret
    exact ⟨rfl, rfl⟩
  · by_cases h2 : l < 1
    · rw [if_pos (.inr h2)]
      go_enter Try.func11, Try.ntmps11
      go_wp2
      go_ret
      exact ⟨rfl, rfl⟩
    · rw [if_neg (by omega)]
      have h3 : 1 ≤ i := by omega
      have h4 : 1 ≤ l := by omega
      have h5 : (l == 0) = false := by rw [beq_eq_false_iff_ne]; omega
      have h6 : ¬ l = 0 := by omega
      go_enter Try.func11, Try.ntmps11
      go_wp2
      go_ret
      refine ⟨ret_int ?_, rfl⟩
      first | rfl | (rw [Int.tmod_eq_emod_of_nonneg (by omega)])

/-- What a slot is for an index. -/
def isV (s i l : Int) : Int := if i < 1 ∨ l < 1 then 0 else if s > i then 3 else if s = i then 2 else if s = (if i - l < 0 then 0 else i - l) then 1 else 0

theorem place_neg {i l : Int} (h : i < 1 ∨ l < 1) : placeV i l = -1 := by unfold placeV; rw [if_pos h]
theorem place_pos {i l : Int} (h : ¬ (i < 1 ∨ l < 1)) : 0 ≤ placeV i l := by unfold placeV; rw [if_neg h]; exact Int.emod_nonneg _ (by omega)

set_option maxHeartbeats 1000000 in
theorem is_any (s i l : Int) (x1 x2 x3 x4 x5 x6 : Value) (w : World) (hi : i ≤ 9223372036854775807) (hs : -9223372036854775808 ≤ l ∧ l ≤ 9223372036854775807) :
    Calls Try.prog 14 #[.agg #[.int .i64 s, x1, x2, x3, x4, x5, x6], .int .i64 i, .int .i64 l] w fun e w' => e = .returned (.int .u8 (isV s i l)) ∧ Below w.heap.size w w' := by
  have hp := fun w => place_any i l w hi
  unfold isV
  by_cases h0 : i < 1 ∨ l < 1
  · rw [if_pos h0]
    rw [place_neg h0] at hp
    have HP := Lib.hid hp
    clear hp h0
    go_enter Try.func14, Try.ntmps14
    go_wp2_with (go_at_call 11; refine (HP.out _).mono ?_; rintro e w' ⟨rfl, hq⟩; subst hq)
    go_ret
    exact ⟨rfl, by go_grown⟩
  · rw [if_neg h0]
    have hp0 := place_pos h0
    have h1 : 1 ≤ i := by omega
    have h2 : 1 ≤ l := by omega
    generalize placeV i l = p at *
    have HP := Lib.hid hp
    clear hp h0
    by_cases c1 : i < s
    · rw [if_pos c1]
      go_enter Try.func14, Try.ntmps14
      go_wp2_with (go_at_call 11; refine (HP.out _).mono ?_; rintro e w' ⟨rfl, hq⟩; subst hq)
      go_ret
      exact ⟨rfl, by go_grown⟩
    rw [if_neg (by omega)]
    by_cases c2 : s = i
    · rw [if_pos c2]
      have c2' : (s == i) = true := by rw [beq_iff_eq]; exact c2
      clear c2
      go_enter Try.func14, Try.ntmps14
      go_wp2_with (go_at_call 11; refine (HP.out _).mono ?_; rintro e w' ⟨rfl, hq⟩; subst hq)
      go_ret
      exact ⟨rfl, by go_grown⟩
    rw [if_neg c2]
    have c2' : (s == i) = false := by rw [beq_eq_false_iff_ne]; exact c2
    clear c2
    by_cases c3 : i - l < 0
    · rw [if_pos c3]
      by_cases c4 : s = 0
      · rw [if_pos c4]
        have c4' : (s == 0) = true := by rw [beq_iff_eq]; exact c4
        clear c4
        go_enter Try.func14, Try.ntmps14
        go_wp2_with (go_at_call 11; refine (HP.out _).mono ?_; rintro e w' ⟨rfl, hq⟩; subst hq)
        go_ret
        exact ⟨rfl, by go_grown⟩
      · rw [if_neg c4]
        have c4' : (s == 0) = false := by rw [beq_eq_false_iff_ne]; exact c4
        clear c4
        go_enter Try.func14, Try.ntmps14
        go_wp2_with (go_at_call 11; refine (HP.out _).mono ?_; rintro e w' ⟨rfl, hq⟩; subst hq)
        go_ret
        exact ⟨rfl, by go_grown⟩
    · rw [if_neg c3]
      by_cases c4 : s = i - l
      · rw [if_pos c4]
        have c4' : (s == i - l) = true := by rw [beq_iff_eq]; exact c4
        clear c4
        go_enter Try.func14, Try.ntmps14
        go_wp2_with (go_at_call 11; refine (HP.out _).mono ?_; rintro e w' ⟨rfl, hq⟩; subst hq)
        go_ret
        exact ⟨rfl, by go_grown⟩
      · rw [if_neg c4]
        have c4' : (s == i - l) = false := by rw [beq_eq_false_iff_ne]; exact c4
        clear c4
        go_enter Try.func14, Try.ntmps14
        go_wp2_with (go_at_call 11; refine (HP.out _).mono ?_; rintro e w' ⟨rfl, hq⟩; subst hq)
        go_ret
        exact ⟨rfl, by go_grown⟩

end Go.Proofs.Ytkjmnmcekhnkmaa.Sl
