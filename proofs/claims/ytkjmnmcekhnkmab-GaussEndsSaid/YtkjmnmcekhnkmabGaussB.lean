/- The four functions on pairs of package gauss and the measure, as contracts: what they return, for all parts. -/
import Derived.Test.YtkjmnmcekhnkmabGaussA
namespace Go.Proofs.Ytkjmnmcekhnkmab
open Go.RowKit
set_option linter.unusedSimpArgs false
set_option linter.unusedVariables false

theorem add_any (a b c d : Int) (w : World) :
    Calls Try.prog 11 #[.agg #[.int .i64 a, .int .i64 b], .agg #[.int .i64 c, .int .i64 d]] w fun e w' =>
      e = .returned (.tuple #[.agg #[.int .i64 (addV a b c d).1, .int .i64 (addV a b c d).2.1], .bool (addV a b c d).2.2]) ∧ Below w.heap.size w w' := by
  have hm := fun w => both_any 40 _ _ (fun args w => by kernel_rfl) add_do add_bd a b c d w
  have HM := Lib.hid hm
  clear hm
  go_enter Try.func11, Try.ntmps11
  go_wp2_with fail
  refine (HM.out _).mono ?_
  rintro e w1 ⟨rfl, hb⟩
  have hB : Below w.heap.size w w1 := Below.after (by go_grown) hb
  obtain ⟨hc, hf⟩ := bcell hb
  have hz : w.heap.size + 2 < w1.heap.size := by have := hb.size; simp at this; omega
  go_wp2_with fail
  refine bodyPost_ret (v := .tuple #[.agg #[.int .i64 (addV a b c d).1, .int .i64 (addV a b c d).2.1], .bool (addV a b c d).2.2]) (by simp [results, Try.results11, go_sem, hc, addV]) rfl ⟨rfl, ?_⟩
  go_grown

theorem sub_any (a b c d : Int) (w : World) :
    Calls Try.prog 12 #[.agg #[.int .i64 a, .int .i64 b], .agg #[.int .i64 c, .int .i64 d]] w fun e w' =>
      e = .returned (.tuple #[.agg #[.int .i64 (subV a b c d).1, .int .i64 (subV a b c d).2.1], .bool (subV a b c d).2.2]) ∧ Below w.heap.size w w' := by
  have hm := fun w => both_any 41 _ _ (fun args w => by kernel_rfl) sub_do sub_bd a b c d w
  have HM := Lib.hid hm
  clear hm
  go_enter Try.func12, Try.ntmps12
  go_wp2_with fail
  refine (HM.out _).mono ?_
  rintro e w1 ⟨rfl, hb⟩
  have hB : Below w.heap.size w w1 := Below.after (by go_grown) hb
  obtain ⟨hc, hf⟩ := bcell hb
  have hz : w.heap.size + 2 < w1.heap.size := by have := hb.size; simp at this; omega
  go_wp2_with fail
  refine bodyPost_ret (v := .tuple #[.agg #[.int .i64 (subV a b c d).1, .int .i64 (subV a b c d).2.1], .bool (subV a b c d).2.2]) (by simp [results, Try.results12, go_sem, hc, subV]) rfl ⟨rfl, ?_⟩
  go_grown

theorem prod_any (a b c d : Int) (w : World) :
    Calls Try.prog 36 #[.agg #[.int .i64 a, .int .i64 b], .agg #[.int .i64 c, .int .i64 d]] w fun e w' =>
      e = .returned (.tuple #[.agg #[.int .i64 (mulV a b c d).1, .int .i64 (mulV a b c d).2.1], .bool (mulV a b c d).2.2]) ∧ Below w.heap.size w w' := by
  have hm := fun w => both_any 49 _ _ (fun args w => by kernel_rfl) mul_do prod_bd a b c d w
  have HM := Lib.hid hm
  clear hm
  go_enter Try.func36, Try.ntmps36
  go_wp2_with fail
  refine (HM.out _).mono ?_
  rintro e w1 ⟨rfl, hb⟩
  have hB : Below w.heap.size w w1 := Below.after (by go_grown) hb
  obtain ⟨hc, hf⟩ := bcell hb
  have hz : w.heap.size + 2 < w1.heap.size := by have := hb.size; simp at this; omega
  go_wp2_with fail
  refine bodyPost_ret (v := .tuple #[.agg #[.int .i64 (mulV a b c d).1, .int .i64 (mulV a b c d).2.1], .bool (mulV a b c d).2.2]) (by simp [results, Try.results36, go_sem, hc, mulV]) rfl ⟨rfl, ?_⟩
  go_grown

theorem conj_any (a b : Int) (w : World) :
    Calls Try.prog 37 #[.agg #[.int .i64 a, .int .i64 b]] w fun e w' =>
      e = .returned (.tuple #[.agg #[.int .i64 (conjV a b).1, .int .i64 (conjV a b).2.1], .bool (conjV a b).2.2]) ∧ Below w.heap.size w w' := by
  have hm := fun w => both_any 50 _ _ (fun args w => by kernel_rfl) conj_do conj_bd a b a b w
  have HM := Lib.hid hm
  clear hm
  go_enter Try.func37, Try.ntmps37
  go_wp2_with fail
  refine (HM.out _).mono ?_
  rintro e w1 ⟨rfl, hb⟩
  have hB : Below w.heap.size w w1 := Below.after (by go_grown) hb
  obtain ⟨hc, hf⟩ := bcell hb
  have hz : w.heap.size + 1 < w1.heap.size := by have := hb.size; simp at this; omega
  go_wp2_with fail
  refine bodyPost_ret (v := .tuple #[.agg #[.int .i64 (conjV a b).1, .int .i64 (conjV a b).2.1], .bool (conjV a b).2.2]) (by simp [results, Try.results37, go_sem, hc, conjV]) rfl ⟨rfl, ?_⟩
  go_grown

/-- A pair's measure. -/
def measV (a b : Int) : Int := if mayB a b then a * a + b * b else -1

theorem measure_any (a b : Int) (w : World) :
    Calls Try.prog 38 #[.agg #[.int .i64 a, .int .i64 b]] w fun e w' => e = .returned (.int .i64 (measV a b)) ∧ Below w.heap.size w w' := by
  have hm := fun w => may_any a b w
  unfold measV
  cases h : mayB a b
  · rw [h] at hm
    have HM := Lib.hid hm
    clear hm h
    go_enter Try.func38, Try.ntmps38
    go_wp2_with fail
    refine (HM.out _).mono ?_
    rintro e w1 ⟨rfl, hb⟩
    have hB : Below w.heap.size w w1 := Below.after (by go_grown) hb
    obtain ⟨hc, hf⟩ := bcell hb
    have hz : w.heap.size < w1.heap.size := by have := hb.size; simp at this; omega
    go_wp2_with fail
    go_ret
    exact ⟨rfl, hB⟩
  · rw [h] at hm
    have HM := Lib.hid hm
    obtain ⟨m1, m2, m3, m4⟩ := mayB_iff.1 h
    have q1 := mul_bd m1 m2 m1 m2
    have q2 := mul_bd m3 m4 m3 m4
    clear hm h m1 m2 m3 m4
    go_enter Try.func38, Try.ntmps38
    go_wp2_with fail
    refine (HM.out _).mono ?_
    rintro e w1 ⟨rfl, hb⟩
    have hB : Below w.heap.size w w1 := Below.after (by go_grown) hb
    obtain ⟨hc, hf⟩ := bcell hb
    have hz : w.heap.size < w1.heap.size := by have := hb.size; simp at this; omega
    go_wp2_with fail
    go_ret
    exact ⟨rfl, hB⟩

end Go.Proofs.Ytkjmnmcekhnkmab
