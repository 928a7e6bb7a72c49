/- Announcements (package ann): whose an index is, who is helped, what is too great: contracts for every input. -/
import Derived.Test.YtkjmnmcekhnkmabProg
import Derived.WalkKit
import Derived.WalkLawsBesides
import Derived.KernelRfl
import Derived.Lib.Hide
import Derived.Handy
import Derived.Deep.RegionHeld3
import Derived.Deep.QuietTactic
import Derived.BigQuiet
namespace Go.Proofs.Ytkjmnmcekhnkmab
open Go.RowKit
set_option linter.unusedSimpArgs false
set_option linter.unusedVariables false

theorem an_int {a b : Int} (h : a = b) : Ending.returned (.int .i64 a) = .returned (.int .i64 b) := by rw [h]
theorem an_bool {x y : Bool} (h : x = y) : Ending.returned (.bool x) = .returned (.bool y) := by rw [h]

theorem an_ib {a b : Int} {x y : Bool} (h : a = b) (h' : x = y) : Ending.returned (.tuple #[.int .i64 a, .bool x]) = .returned (.tuple #[.int .i64 b, .bool y]) := by rw [h, h']

/-- Whose an index is. -/
def whoseI (i n : Int) : Int := if i < 1 ∨ n < 1 then -1 else (i - 1) % n
theorem whoseI_no {i n : Int} (h : i < 1 ∨ n < 1) : whoseI i n = -1 := if_pos h
theorem whoseI_yes {i n : Int} (h1 : 1 ≤ i) (h2 : 1 ≤ n) : whoseI i n = (i - 1) % n ∧ 0 ≤ whoseI i n ∧ whoseI i n < n := by
  have e : whoseI i n = (i - 1) % n := if_neg (by omega)
  have h3 := Int.emod_nonneg (i - 1) (show n ≠ 0 by omega)
  have h4 := Int.emod_lt_of_pos (i - 1) (show 0 < n by omega)
  exact ⟨e, by omega, by omega⟩

theorem whose_any (i n : Int) (w : World) (i1 : -9223372036854775808 ≤ i) (i2 : i ≤ 9223372036854775807) :
    Calls Try.prog 29 #[.int .i64 i, .int .i64 n] w fun e w' => e = .returned (.int .i64 (whoseI i n)) ∧ w' = w := by
  by_cases h1 : i < 1
  · rw [whoseI_no (.inl h1)]
    go_enter Try.func29, Try.ntmps29
    go_wp2_with fail
    go_ret
    exact ⟨rfl, rfl⟩
  by_cases h2 : n < 1
  · rw [whoseI_no (.inr h2)]
    go_enter Try.func29, Try.ntmps29
    go_wp2_with fail
    go_ret
    exact ⟨rfl, rfl⟩
  rw [(whoseI_yes (by omega) (by omega)).1]
  have h3 : 1 ≤ i := by omega
  have h4 : 1 ≤ n := by omega
  have h5 : ¬ n = 0 := by omega
  have h6 : (n == 0) = false := by rw [beq_eq_false_iff_ne]; exact h5
  clear h1 h2
  go_enter Try.func29, Try.ntmps29
  go_wp2_with fail
  go_ret
  exact ⟨rfl, rfl⟩

theorem refWhose_any (i n : Int) (w : World) (i1 : -9223372036854775808 ≤ i) (i2 : i ≤ 9223372036854775807) :
    Calls Try.prog 27 #[.int .i64 i, .int .i64 n] w fun e w' => e = .returned (.int .i64 (whoseI i n)) ∧ w' = w := by
  by_cases h1 : i < 1
  · rw [whoseI_no (.inl h1)]
    go_enter Try.func27, Try.ntmps27
    go_wp2_with fail
    go_ret
    exact ⟨rfl, rfl⟩
  by_cases h2 : n < 1
  · rw [whoseI_no (.inr h2)]
    go_enter Try.func27, Try.ntmps27
    go_wp2_with fail
    go_ret
    exact ⟨rfl, rfl⟩
  rw [(whoseI_yes (by omega) (by omega)).1]
  have h3 : 1 ≤ i := by omega
  have h4 : 1 ≤ n := by omega
  have h5 : ¬ n = 0 := by omega
  have h6 : (n == 0) = false := by rw [beq_eq_false_iff_ne]; exact h5
  clear h1 h2
  go_enter Try.func27, Try.ntmps27
  go_wp2_with fail
  go_ret
  exact ⟨rfl, rfl⟩

/-- Is another one helped? -/
def helpsB (i n p : Int) : Bool := decide (0 ≤ whoseI i n) && !decide (whoseI i n = p)
theorem helps_any (i n p : Int) (w : World) (i1 : -9223372036854775808 ≤ i) (i2 : i ≤ 9223372036854775807) :
    Calls Try.prog 28 #[.int .i64 i, .int .i64 n, .int .i64 p] w fun e w' => e = .returned (.tuple #[.int .i64 (whoseI i n), .bool (helpsB i n p)]) ∧ w' = w := by
  have hw := whose_any i n w i1 i2
  have HW := Lib.hid hw
  clear hw
  unfold helpsB
  generalize whoseI i n = q at *
  by_cases h1 : 0 ≤ q
  · by_cases h2 : q = p
    · have e1 : (q == p) = true := by rw [beq_iff_eq]; exact h2
      rw [decide_eq_true h1, decide_eq_true h2]
      have E1 := Lib.hid e1
      clear h2 e1
      go_enter Try.func28, Try.ntmps28
      go_wp2_with (go_at_call 29; refine HW.out.mono ?_; rintro e w' ⟨rfl, hq⟩; subst hq)
      go_ret2
      exact ⟨an_ib rfl (by have := E1.out; simp at this; simp [this, h1]), rfl⟩
    · have e1 : (q == p) = false := by rw [beq_eq_false_iff_ne]; exact h2
      rw [decide_eq_true h1, decide_eq_false h2]
      have E1 := Lib.hid h2
      clear h2 e1
      go_enter Try.func28, Try.ntmps28
      go_wp2_with (go_at_call 29; refine HW.out.mono ?_; rintro e w' ⟨rfl, hq⟩; subst hq)
      go_ret2
      exact ⟨an_ib rfl (by have := E1.out; simp [this, h1]), rfl⟩
  · have e1 : decide (0 ≤ q) = false := decide_eq_false h1
    rw [e1, Bool.false_and]
    go_enter Try.func28, Try.ntmps28
    go_wp2_with (go_at_call 29; refine HW.out.mono ?_; rintro e w' ⟨rfl, hq⟩; subst hq)
    go_ret2
    exact ⟨rfl, rfl⟩

/-- Is an operation too great? -/
def greatB (m n : Nat) : Bool := decide (20 < m) || decide (3000 < n)
theorem great_any (k me : Int) (A B : Option Addr) (m cm n cn : Nat) (w : World) :
    Calls Try.prog 26 #[.agg #[.int .u8 k, .int .i64 me, .slice A m cm, .slice B n cn]] w fun e w' => e = .returned (.bool (greatB m n)) ∧ Below w.heap.size w w' := by
  unfold greatB
  by_cases h1 : 20 < m
  · have h2 : (20 : Int) < (m : Int) := by omega
    rw [decide_eq_true h1]
    clear h1
    go_enter Try.func26, Try.ntmps26
    go_wp2_with fail
    go_ret
    exact ⟨rfl, by go_grown⟩
  · have h2 : ¬ (20 : Int) < (m : Int) := by omega
    rw [decide_eq_false h1, Bool.false_or]
    by_cases h3 : 3000 < n
    · have h4 : (3000 : Int) < (n : Int) := by omega
      rw [decide_eq_true h3]
      clear h1 h3
      go_enter Try.func26, Try.ntmps26
      go_wp2_with fail
      go_ret
      exact ⟨rfl, by go_grown⟩
    · have h4 : ¬ (3000 : Int) < (n : Int) := by omega
      rw [decide_eq_false h3]
      clear h1 h3
      go_enter Try.func26, Try.ntmps26
      go_wp2_with fail
      go_ret
      exact ⟨rfl, by go_grown⟩

end Go.Proofs.Ytkjmnmcekhnkmab
