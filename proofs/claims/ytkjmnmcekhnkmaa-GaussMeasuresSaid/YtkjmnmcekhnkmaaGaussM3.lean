/- The measure of a product is the product of the measures: the cases joined, for all parts. -/
import Derived.Test.YtkjmnmcekhnkmaaGaussM1
import Derived.Test.YtkjmnmcekhnkmaaGaussM2
namespace Go.Proofs.Ytkjmnmcekhnkmaa
open Go.RowKit
set_option linter.unusedSimpArgs false
set_option linter.unusedVariables false

theorem mulV_yes {a b c d : Int} (h1 : mayB a b = true) (h2 : mayB c d = true) (h3 : mayB (a * c - b * d) (a * d + b * c) = true) : mulV a b c d = (a * c - b * d, a * d + b * c, true) := by
  unfold mulV bothV; rw [if_pos ⟨h1, h2, h3⟩]
theorem mulV_no {a b c d : Int} (h : ¬ (mayB a b = true ∧ mayB c d = true ∧ mayB (a * c - b * d) (a * d + b * c) = true)) : mulV a b c d = (0, 0, false) := by
  unfold mulV bothV; rw [if_neg h]
theorem conjV_yes {a b : Int} (h : mayB a b = true) : conjV a b = (a, -b, true) := by
  have h' : mayB a (-b) = true := by rw [mayB_iff] at *; omega
  unfold conjV bothV; rw [if_pos ⟨h, h, h'⟩]
theorem conjV_no {a b : Int} (h : mayB a b = false) : conjV a b = (0, 0, false) := by
  unfold conjV bothV; rw [if_neg (by simp [h])]
theorem measV_yes {a b : Int} (h : mayB a b = true) : measV a b = a * a + b * b := by unfold measV; rw [if_pos h]
theorem measV_no {a b : Int} (h : mayB a b = false) : measV a b = -1 := by unfold measV; rw [if_neg (by simp [h])]
theorem sq_nonneg' (a : Int) : 0 ≤ a * a := by
  rcases Int.le_total 0 a with h | h
  · exact Int.mul_nonneg h h
  · have := Int.mul_nonneg (a := -a) (b := -a) (by omega) (by omega)
    rwa [Int.neg_mul_neg] at this
theorem meas_pos {a b : Int} (h : mayB a b = true) : decide (measV a b < 0) = false := by
  rw [measV_yes h, decide_eq_false_iff_not]
  have h1 := sq_nonneg' a
  have h2 := sq_nonneg' b
  omega
theorem meas_neg {a b : Int} (h : mayB a b = false) : decide (measV a b < 0) = true := by
  rw [measV_no h]; rfl
theorem brahma (a b c d : Int) : (a * c - b * d) * (a * c - b * d) + (a * d + b * c) * (a * d + b * c) = (a * a + b * b) * (c * c + d * d) := by grind
theorem meas_prod {a b c d : Int} (h1 : mayB a b = true) (h2 : mayB c d = true) (h3 : mayB (a * c - b * d) (a * d + b * c) = true) :
    (measV (a * c - b * d) (a * d + b * c) != IntKind.i64.wrap (measV a b * measV c d)) = false := by
  rw [measV_yes h1, measV_yes h2, measV_yes h3, ← brahma]
  obtain ⟨m1, m2, m3, m4⟩ := mayB_iff.1 h3
  have b1 := mul_bd m1 m2 m1 m2
  have b2 := mul_bd m3 m4 m3 m4
  have e : IntKind.i64.wrap ((a * c - b * d) * (a * c - b * d) + (a * d + b * c) * (a * d + b * c)) = (a * c - b * d) * (a * c - b * d) + (a * d + b * c) * (a * d + b * c) := by
    rw [IntKind.wrap_i64]; omega
  rw [e]
  simp

theorem gaussMeasures_walk (a b c d : Int) (w : World) : Calls Try.prog 7 #[.agg #[.int .i64 a, .int .i64 b], .agg #[.int .i64 c, .int .i64 d]] w fun e w' => e = .returned (.bool true) ∧ Below w.heap.size w w' := by
  have m00 : mayB 0 0 = true := by decide
  have c00 : conjV 0 0 = (0, 0, true) := by decide
  have p00 : mulV 0 0 0 0 = (0, 0, true) := by decide
  by_cases hi : mayB a b = true
  · have hi' : mayB a (-b) = true := by rw [mayB_iff] at *; omega
    have e2 := conjV_yes hi
    have e7 := conjV_yes hi'
    rw [Int.neg_neg] at e7
    have hN := meas_pos hi
    have hO1 : ((a * a - b * (-b)) == measV a b) = true := by rw [measV_yes hi, beq_iff_eq, Int.mul_neg]; omega
    have hO2 : ((a * (-b) + b * a) == 0) = true := by rw [beq_iff_eq, Int.mul_neg, Int.mul_comm b a]; omega
    by_cases hj : mayB c d = true
    · have hj' : mayB c (-d) = true := by rw [mayB_iff] at *; omega
      have e3 := conjV_yes hj
      have hY1 : a * c - (-b) * (-d) = a * c - b * d := by rw [Int.neg_mul_neg]
      have hY2 : a * (-d) + (-b) * c = -(a * d + b * c) := by rw [Int.mul_neg, Int.neg_mul]; omega
      by_cases hs : mayB (a * c - b * d) (a * d + b * c) = true
      · have e1 := mulV_yes hi hj hs
        have hs' : mayB (a * c - (-b) * (-d)) (a * (-d) + (-b) * c) = true := by rw [hY1, hY2]; rw [mayB_iff] at *; omega
        have e5 := mulV_yes hi' hj' hs'
        have e6 := conjV_yes hs
        have hM := meas_prod hi hj hs
        have hz1 : ((a * c - (-b) * (-d)) == (a * c - b * d)) = true := by rw [hY1]; simp
        have hz2 : ((a * (-d) + (-b) * c) == -(a * d + b * c)) = true := by rw [hY2]; simp
        by_cases hk : mayB (a * a - b * (-b)) (a * (-b) + b * a) = true
        · exact gm_tttttt a b c d _ _ _ _ _ _ _ _ _ _ _ _ _ _ w e1 e2 e3 (mulV_yes hi hi' hk) e5 e6 e7 hi hN hM hO1 hO2 (by simp) (by simp) hz1 hz2
        · exact gm_tttftt a b c d _ _ _ _ _ _ _ _ _ _ _ _ _ _ w e1 e2 e3 (mulV_no (fun h => hk h.2.2)) e5 e6 e7 hi hN hM (by simp) (by simp) hz1 hz2
      · have e1 : mulV a b c d = (0, 0, false) := mulV_no (fun h => hs h.2.2)
        have hs' : ¬ mayB (a * c - (-b) * (-d)) (a * (-d) + (-b) * c) = true := by
          intro h; apply hs; rw [hY1, hY2] at h; rw [mayB_iff] at *; omega
        have e5 : mulV a (-b) c (-d) = (0, 0, false) := mulV_no (fun h => hs' h.2.2)
        by_cases hk : mayB (a * a - b * (-b)) (a * (-b) + b * a) = true
        · exact gm_ftttft a b c d _ _ _ _ _ _ _ _ _ _ _ _ _ _ w e1 e2 e3 (mulV_yes hi hi' hk) e5 c00 e7 hi hN hO1 hO2 (by simp) (by simp)
        · exact gm_fttfft a b c d _ _ _ _ _ _ _ _ _ _ _ _ _ _ w e1 e2 e3 (mulV_no (fun h => hk h.2.2)) e5 c00 e7 hi hN (by simp) (by simp)
    · have hj0 : mayB c d = false := by simpa using hj
      have e1 : mulV a b c d = (0, 0, false) := mulV_no (fun h => hj h.2.1)
      have e3 := conjV_no hj0
      have e5 : mulV a (-b) 0 0 = (0, 0, true) := by
        have h0 : mayB (a * 0 - (-b) * 0) (a * 0 + (-b) * 0) = true := by simp [m00]
        rw [mulV_yes hi' m00 h0]; simp
      by_cases hk : mayB (a * a - b * (-b)) (a * (-b) + b * a) = true
      · exact gm_ftfttt a b c d _ _ _ _ _ _ _ _ _ _ _ _ _ _ w e1 e2 e3 (mulV_yes hi hi' hk) e5 c00 e7 hi hN hO1 hO2 (by simp) (by simp)
      · exact gm_ftfftt a b c d _ _ _ _ _ _ _ _ _ _ _ _ _ _ w e1 e2 e3 (mulV_no (fun h => hk h.2.2)) e5 c00 e7 hi hN (by simp) (by simp)
  · have hi0 : mayB a b = false := by simpa using hi
    have e1 : mulV a b c d = (0, 0, false) := mulV_no (fun h => hi h.1)
    have e2 := conjV_no hi0
    have e4 : mulV a b 0 0 = (0, 0, false) := mulV_no (fun h => hi h.1)
    have hN := meas_neg hi0
    by_cases hj : mayB c d = true
    · have hj' : mayB c (-d) = true := by rw [mayB_iff] at *; omega
      have e3 := conjV_yes hj
      have e5 : mulV 0 0 c (-d) = (0, 0, true) := by
        have h0 : mayB (0 * c - 0 * (-d)) (0 * (-d) + 0 * c) = true := by simp [m00]
        rw [mulV_yes m00 hj' h0]; simp
      exact gm_fftftt a b c d _ _ _ _ _ _ _ _ _ _ _ _ _ _ w e1 e2 e3 e4 e5 c00 c00 hi0 hN
    · have e3 := conjV_no (show mayB c d = false by simpa using hj)
      exact gm_fffftt a b c d _ _ _ _ _ _ _ _ _ _ _ _ _ _ w e1 e2 e3 e4 p00 c00 c00 hi0 hN

end Go.Proofs.Ytkjmnmcekhnkmaa
