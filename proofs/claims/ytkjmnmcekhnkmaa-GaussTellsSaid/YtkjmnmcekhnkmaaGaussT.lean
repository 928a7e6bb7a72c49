/- Any pairs have the sum, the difference, the product and the measure that the chapter says: the law's walk; for all parts. -/
import Derived.Test.YtkjmnmcekhnkmaaGaussR
namespace Go.Proofs.Ytkjmnmcekhnkmaa
open Go.RowKit
set_option linter.unusedSimpArgs false
set_option linter.unusedVariables false

set_option maxRecDepth 100000 in
set_option maxHeartbeats 4000000 in
theorem gaussTells_walk (a b c d : Int) (w : World) : Calls Try.prog 8 #[.int .i64 a, .int .i64 b, .int .i64 c, .int .i64 d] w fun e w' => e = .returned (.bool true) ∧ Below w.heap.size w w' := by
  have hpe := pair_eq
  go_enter Try.func8, Try.ntmps8
  go_wp2_with fail
  refine (add_any _ _ _ _ _).mono ?_
  rintro e w1 ⟨rfl, hb1⟩
  have hB1 : Below w.heap.size w w1 := Below.after (by go_grown) hb1
  have hz1_0 : w.heap.size < w1.heap.size := by have := hb1.size; (try simp at this); omega
  have hz1_1 : w.heap.size + 1 < w1.heap.size := by have := hb1.size; (try simp at this); omega
  have hc1_0 : w1.cell? ⟨w.heap.size, 0, none⟩ = some (.int .i64 a) := (hb1.cell (p := ⟨w.heap.size, 0, none⟩) (by first | omega | (simp; done) | (simp; omega))).trans (by simp [go_sem, *])
  have hc1_1 : w1.cell? ⟨w.heap.size, 1, none⟩ = some (.int .i64 b) := (hb1.cell (p := ⟨w.heap.size, 1, none⟩) (by first | omega | (simp; done) | (simp; omega))).trans (by simp [go_sem, *])
  have hc1_2 : w1.cell? ⟨w.heap.size + 1, 0, none⟩ = some (.int .i64 c) := (hb1.cell (p := ⟨w.heap.size + 1, 0, none⟩) (by first | omega | (simp; done) | (simp; omega))).trans (by simp [go_sem, *])
  have hc1_3 : w1.cell? ⟨w.heap.size + 1, 1, none⟩ = some (.int .i64 d) := (hb1.cell (p := ⟨w.heap.size + 1, 1, none⟩) (by first | omega | (simp; done) | (simp; omega))).trans (by simp [go_sem, *])
  clear hb1
  go_wp2_with (first | (go_at_call 27; refine (radd_any _ _ _ _ _).mono ?_; rintro e w' ⟨rfl, rfl⟩) | fail)
  refine (sub_any _ _ _ _ _).mono ?_
  rintro e w2 ⟨rfl, hb2⟩
  have hB2 : Below w.heap.size w w2 := Below.after (by go_grown) hb2
  have hz2_0 : w.heap.size < w2.heap.size := by have := hb2.size; (try simp at this); omega
  have hz2_1 : w.heap.size + 1 < w2.heap.size := by have := hb2.size; (try simp at this); omega
  have hz2_2 : w1.heap.size < w2.heap.size := by have := hb2.size; (try simp at this); omega
  have hc2_0 : w2.cell? ⟨w.heap.size, 0, none⟩ = some (.int .i64 a) := (hb2.cell (p := ⟨w.heap.size, 0, none⟩) (by first | omega | (simp; done) | (simp; omega))).trans (by simp [go_sem, *])
  have hc2_1 : w2.cell? ⟨w.heap.size, 1, none⟩ = some (.int .i64 b) := (hb2.cell (p := ⟨w.heap.size, 1, none⟩) (by first | omega | (simp; done) | (simp; omega))).trans (by simp [go_sem, *])
  have hc2_2 : w2.cell? ⟨w.heap.size + 1, 0, none⟩ = some (.int .i64 c) := (hb2.cell (p := ⟨w.heap.size + 1, 0, none⟩) (by first | omega | (simp; done) | (simp; omega))).trans (by simp [go_sem, *])
  have hc2_3 : w2.cell? ⟨w.heap.size + 1, 1, none⟩ = some (.int .i64 d) := (hb2.cell (p := ⟨w.heap.size + 1, 1, none⟩) (by first | omega | (simp; done) | (simp; omega))).trans (by simp [go_sem, *])
  have hc2_4 : w2.cell? ⟨w1.heap.size, 0, none⟩ = some (.int .i64 (addV a b c d).1) := (hb2.cell (p := ⟨w1.heap.size, 0, none⟩) (by first | omega | (simp; done) | (simp; omega))).trans (by simp [go_sem, *])
  have hc2_5 : w2.cell? ⟨w1.heap.size, 1, none⟩ = some (.int .i64 (addV a b c d).2.1) := (hb2.cell (p := ⟨w1.heap.size, 1, none⟩) (by first | omega | (simp; done) | (simp; omega))).trans (by simp [go_sem, *])
  have hf2_0 : w2.frozen? ⟨w1.heap.size, 0, none⟩ = false := (hb2.frozen (p := ⟨w1.heap.size, 0, none⟩) (by first | omega | (simp; done) | (simp; omega))).trans (by simp [go_sem, *])
  have hf2_1 : w2.frozen? ⟨w1.heap.size, 1, none⟩ = false := (hb2.frozen (p := ⟨w1.heap.size, 1, none⟩) (by first | omega | (simp; done) | (simp; omega))).trans (by simp [go_sem, *])
  clear hb2
  clear hc1_0 hc1_1 hc1_2 hc1_3
  go_wp2_with (first | (go_at_call 29; refine (rsub_any _ _ _ _ _).mono ?_; rintro e w' ⟨rfl, rfl⟩) | fail)
  refine (prod_any _ _ _ _ _).mono ?_
  rintro e w3 ⟨rfl, hb3⟩
  have hB3 : Below w.heap.size w w3 := Below.after (by go_grown) hb3
  have hz3_0 : w.heap.size < w3.heap.size := by have := hb3.size; (try simp at this); omega
  have hz3_1 : w.heap.size + 1 < w3.heap.size := by have := hb3.size; (try simp at this); omega
  have hz3_2 : w1.heap.size < w3.heap.size := by have := hb3.size; (try simp at this); omega
  have hc3_0 : w3.cell? ⟨w.heap.size, 0, none⟩ = some (.int .i64 a) := (hb3.cell (p := ⟨w.heap.size, 0, none⟩) (by first | omega | (simp; done) | (simp; omega))).trans (by simp [go_sem, *])
  have hc3_1 : w3.cell? ⟨w.heap.size, 1, none⟩ = some (.int .i64 b) := (hb3.cell (p := ⟨w.heap.size, 1, none⟩) (by first | omega | (simp; done) | (simp; omega))).trans (by simp [go_sem, *])
  have hc3_2 : w3.cell? ⟨w.heap.size + 1, 0, none⟩ = some (.int .i64 c) := (hb3.cell (p := ⟨w.heap.size + 1, 0, none⟩) (by first | omega | (simp; done) | (simp; omega))).trans (by simp [go_sem, *])
  have hc3_3 : w3.cell? ⟨w.heap.size + 1, 1, none⟩ = some (.int .i64 d) := (hb3.cell (p := ⟨w.heap.size + 1, 1, none⟩) (by first | omega | (simp; done) | (simp; omega))).trans (by simp [go_sem, *])
  have hc3_4 : w3.cell? ⟨w1.heap.size, 0, none⟩ = some (.int .i64 (subV a b c d).1) := (hb3.cell (p := ⟨w1.heap.size, 0, none⟩) (by first | omega | (simp; done) | (simp; omega))).trans (by simp [go_sem, *])
  have hc3_5 : w3.cell? ⟨w1.heap.size, 1, none⟩ = some (.int .i64 (subV a b c d).2.1) := (hb3.cell (p := ⟨w1.heap.size, 1, none⟩) (by first | omega | (simp; done) | (simp; omega))).trans (by simp [go_sem, *])
  have hf3_0 : w3.frozen? ⟨w1.heap.size, 0, none⟩ = false := (hb3.frozen (p := ⟨w1.heap.size, 0, none⟩) (by first | omega | (simp; done) | (simp; omega))).trans (by simp [go_sem, *])
  have hf3_1 : w3.frozen? ⟨w1.heap.size, 1, none⟩ = false := (hb3.frozen (p := ⟨w1.heap.size, 1, none⟩) (by first | omega | (simp; done) | (simp; omega))).trans (by simp [go_sem, *])
  clear hb3
  clear hc2_0 hc2_1 hc2_2 hc2_3 hc2_4 hc2_5 hf2_0 hf2_1
  go_wp2_with (first | (go_at_call 30; refine (rmul_any _ _ _ _ _).mono ?_; rintro e w' ⟨rfl, rfl⟩) | fail)
  refine (conj_any _ _ _).mono ?_
  rintro e w4 ⟨rfl, hb4⟩
  have hB4 : Below w.heap.size w w4 := Below.after (by go_grown) hb4
  have hz4_0 : w.heap.size < w4.heap.size := by have := hb4.size; (try simp at this); omega
  have hz4_1 : w.heap.size + 1 < w4.heap.size := by have := hb4.size; (try simp at this); omega
  have hz4_2 : w1.heap.size < w4.heap.size := by have := hb4.size; (try simp at this); omega
  have hc4_0 : w4.cell? ⟨w.heap.size, 0, none⟩ = some (.int .i64 a) := (hb4.cell (p := ⟨w.heap.size, 0, none⟩) (by first | omega | (simp; done) | (simp; omega))).trans (by simp [go_sem, *])
  have hc4_1 : w4.cell? ⟨w.heap.size, 1, none⟩ = some (.int .i64 b) := (hb4.cell (p := ⟨w.heap.size, 1, none⟩) (by first | omega | (simp; done) | (simp; omega))).trans (by simp [go_sem, *])
  have hc4_2 : w4.cell? ⟨w.heap.size + 1, 0, none⟩ = some (.int .i64 c) := (hb4.cell (p := ⟨w.heap.size + 1, 0, none⟩) (by first | omega | (simp; done) | (simp; omega))).trans (by simp [go_sem, *])
  have hc4_3 : w4.cell? ⟨w.heap.size + 1, 1, none⟩ = some (.int .i64 d) := (hb4.cell (p := ⟨w.heap.size + 1, 1, none⟩) (by first | omega | (simp; done) | (simp; omega))).trans (by simp [go_sem, *])
  have hc4_4 : w4.cell? ⟨w1.heap.size, 0, none⟩ = some (.int .i64 (mulV a b c d).1) := (hb4.cell (p := ⟨w1.heap.size, 0, none⟩) (by first | omega | (simp; done) | (simp; omega))).trans (by simp [go_sem, *])
  have hc4_5 : w4.cell? ⟨w1.heap.size, 1, none⟩ = some (.int .i64 (mulV a b c d).2.1) := (hb4.cell (p := ⟨w1.heap.size, 1, none⟩) (by first | omega | (simp; done) | (simp; omega))).trans (by simp [go_sem, *])
  have hf4_0 : w4.frozen? ⟨w1.heap.size, 0, none⟩ = false := (hb4.frozen (p := ⟨w1.heap.size, 0, none⟩) (by first | omega | (simp; done) | (simp; omega))).trans (by simp [go_sem, *])
  have hf4_1 : w4.frozen? ⟨w1.heap.size, 1, none⟩ = false := (hb4.frozen (p := ⟨w1.heap.size, 1, none⟩) (by first | omega | (simp; done) | (simp; omega))).trans (by simp [go_sem, *])
  clear hb4
  clear hc3_0 hc3_1 hc3_2 hc3_3 hc3_4 hc3_5 hf3_0 hf3_1
  go_wp2_with (first | (go_at_call 31; refine (rconj_any _ _ _).mono ?_; rintro e w' ⟨rfl, rfl⟩) | fail)
  refine (may_any _ _ _).mono ?_
  rintro e w5 ⟨rfl, hb5⟩
  have hB5 : Below w.heap.size w w5 := Below.after (by go_grown) hb5
  have hz5_0 : w.heap.size < w5.heap.size := by have := hb5.size; (try simp at this); omega
  have hz5_1 : w.heap.size + 1 < w5.heap.size := by have := hb5.size; (try simp at this); omega
  have hz5_2 : w1.heap.size < w5.heap.size := by have := hb5.size; (try simp at this); omega
  have hc5_0 : w5.cell? ⟨w.heap.size, 0, none⟩ = some (.int .i64 a) := (hb5.cell (p := ⟨w.heap.size, 0, none⟩) (by first | omega | (simp; done) | (simp; omega))).trans (by simp [go_sem, *])
  have hc5_1 : w5.cell? ⟨w.heap.size, 1, none⟩ = some (.int .i64 b) := (hb5.cell (p := ⟨w.heap.size, 1, none⟩) (by first | omega | (simp; done) | (simp; omega))).trans (by simp [go_sem, *])
  have hc5_2 : w5.cell? ⟨w.heap.size + 1, 0, none⟩ = some (.int .i64 c) := (hb5.cell (p := ⟨w.heap.size + 1, 0, none⟩) (by first | omega | (simp; done) | (simp; omega))).trans (by simp [go_sem, *])
  have hc5_3 : w5.cell? ⟨w.heap.size + 1, 1, none⟩ = some (.int .i64 d) := (hb5.cell (p := ⟨w.heap.size + 1, 1, none⟩) (by first | omega | (simp; done) | (simp; omega))).trans (by simp [go_sem, *])
  have hc5_4 : w5.cell? ⟨w1.heap.size, 0, none⟩ = some (.int .i64 (conjV a b).1) := (hb5.cell (p := ⟨w1.heap.size, 0, none⟩) (by first | omega | (simp; done) | (simp; omega))).trans (by simp [go_sem, *])
  have hc5_5 : w5.cell? ⟨w1.heap.size, 1, none⟩ = some (.int .i64 (conjV a b).2.1) := (hb5.cell (p := ⟨w1.heap.size, 1, none⟩) (by first | omega | (simp; done) | (simp; omega))).trans (by simp [go_sem, *])
  have hf5_0 : w5.frozen? ⟨w1.heap.size, 0, none⟩ = false := (hb5.frozen (p := ⟨w1.heap.size, 0, none⟩) (by first | omega | (simp; done) | (simp; omega))).trans (by simp [go_sem, *])
  have hf5_1 : w5.frozen? ⟨w1.heap.size, 1, none⟩ = false := (hb5.frozen (p := ⟨w1.heap.size, 1, none⟩) (by first | omega | (simp; done) | (simp; omega))).trans (by simp [go_sem, *])
  clear hb5
  clear hc4_0 hc4_1 hc4_2 hc4_3 hc4_4 hc4_5 hf4_0 hf4_1
  go_wp2_with (first | (go_at_call 32; refine (rmay_any _ _ _).mono ?_; rintro e w' ⟨rfl, rfl⟩) | fail)
  refine (measure_any _ _ _).mono ?_
  rintro e w6 ⟨rfl, hb6⟩
  have hB6 : Below w.heap.size w w6 := Below.after (by go_grown) hb6
  have hz6_0 : w.heap.size < w6.heap.size := by have := hb6.size; (try simp at this); omega
  have hz6_1 : w.heap.size + 1 < w6.heap.size := by have := hb6.size; (try simp at this); omega
  have hz6_2 : w1.heap.size < w6.heap.size := by have := hb6.size; (try simp at this); omega
  have hc6_0 : w6.cell? ⟨w.heap.size, 0, none⟩ = some (.int .i64 a) := (hb6.cell (p := ⟨w.heap.size, 0, none⟩) (by first | omega | (simp; done) | (simp; omega))).trans (by simp [go_sem, *])
  have hc6_1 : w6.cell? ⟨w.heap.size, 1, none⟩ = some (.int .i64 b) := (hb6.cell (p := ⟨w.heap.size, 1, none⟩) (by first | omega | (simp; done) | (simp; omega))).trans (by simp [go_sem, *])
  have hc6_2 : w6.cell? ⟨w.heap.size + 1, 0, none⟩ = some (.int .i64 c) := (hb6.cell (p := ⟨w.heap.size + 1, 0, none⟩) (by first | omega | (simp; done) | (simp; omega))).trans (by simp [go_sem, *])
  have hc6_3 : w6.cell? ⟨w.heap.size + 1, 1, none⟩ = some (.int .i64 d) := (hb6.cell (p := ⟨w.heap.size + 1, 1, none⟩) (by first | omega | (simp; done) | (simp; omega))).trans (by simp [go_sem, *])
  have hc6_4 : w6.cell? ⟨w1.heap.size, 0, none⟩ = some (.int .i64 (conjV a b).1) := (hb6.cell (p := ⟨w1.heap.size, 0, none⟩) (by first | omega | (simp; done) | (simp; omega))).trans (by simp [go_sem, *])
  have hc6_5 : w6.cell? ⟨w1.heap.size, 1, none⟩ = some (.int .i64 (conjV a b).2.1) := (hb6.cell (p := ⟨w1.heap.size, 1, none⟩) (by first | omega | (simp; done) | (simp; omega))).trans (by simp [go_sem, *])
  have hf6_0 : w6.frozen? ⟨w1.heap.size, 0, none⟩ = false := (hb6.frozen (p := ⟨w1.heap.size, 0, none⟩) (by first | omega | (simp; done) | (simp; omega))).trans (by simp [go_sem, *])
  have hf6_1 : w6.frozen? ⟨w1.heap.size, 1, none⟩ = false := (hb6.frozen (p := ⟨w1.heap.size, 1, none⟩) (by first | omega | (simp; done) | (simp; omega))).trans (by simp [go_sem, *])
  clear hb6
  clear hc5_0 hc5_1 hc5_2 hc5_3 hc5_4 hc5_5 hf5_0 hf5_1
  go_wp2_with (first | (go_at_call 33; refine (rmeas_any _ _ _).mono ?_; rintro e w' ⟨rfl, rfl⟩) | fail)
  go_ret
  refine ⟨rfl, ?_⟩
  go_grown
end Go.Proofs.Ytkjmnmcekhnkmaa
