/- The chapter's examples for pairs (awake), as a contract: they all hold, whatever the memory. -/
import Derived.Test.YtkjmnmcekhnkmabGaussE
namespace Go.Proofs.Ytkjmnmcekhnkmab
open Go.RowKit
set_option linter.unusedSimpArgs false
set_option linter.unusedVariables false

theorem ex_mul (w : World) : Calls Try.prog 36 #[.agg #[.int .i64 1, .int .i64 2], .agg #[.int .i64 3, .int .i64 (-1)]] w fun e w' =>
    e = .returned (.tuple #[.agg #[.int .i64 5, .int .i64 5], .bool true]) ∧ Below w.heap.size w w' := prod_any 1 2 3 (-1) w
theorem ex_add (w : World) : Calls Try.prog 11 #[.agg #[.int .i64 1048576, .int .i64 0], .agg #[.int .i64 1, .int .i64 0]] w fun e w' =>
    e = .returned (.tuple #[.agg #[.int .i64 0, .int .i64 0], .bool false]) ∧ Below w.heap.size w w' := add_any 1048576 0 1 0 w
theorem ex_conj (w : World) : Calls Try.prog 37 #[.agg #[.int .i64 0, .int .i64 7]] w fun e w' =>
    e = .returned (.tuple #[.agg #[.int .i64 0, .int .i64 (-7)], .bool true]) ∧ Below w.heap.size w w' := conj_any 0 7 w
theorem ex_meas (w : World) : Calls Try.prog 38 #[.agg #[.int .i64 3, .int .i64 4]] w fun e w' => e = .returned (.int .i64 25) ∧ Below w.heap.size w w' := measure_any 3 4 w

set_option maxRecDepth 100000 in
set_option maxHeartbeats 4000000 in
theorem awake02_any (w : World) : Calls Try.prog 10 #[] w fun e w' => e = .returned (.bool true) ∧ Below w.heap.size w w' := by
  have hpe := pair_eq
  go_enter Try.func10, Try.ntmps10
  go_wp2_with fail
  refine (ex_mul _).mono ?_
  rintro e w1 ⟨rfl, hb1⟩
  have hB1 : Below w.heap.size w w1 := Below.after (by go_grown) hb1
  have hs1 : w.heap.size ≤ w1.heap.size := hB1.size
  clear hb1
  go_wp2_with fail
  refine (ex_add _).mono ?_
  rintro e w2 ⟨rfl, hb2⟩
  have hB2 : Below w.heap.size w w2 := Below.after (by go_grown) hb2
  have hs2 : w.heap.size ≤ w2.heap.size := hB2.size
  have hz2_0 : w1.heap.size < w2.heap.size := by have := hb2.size; (try simp at this); omega
  have hc2_0 : w2.cell? ⟨w1.heap.size, 0, none⟩ = some (.int .i64 5) := (hb2.cell (p := ⟨w1.heap.size, 0, none⟩) (by first | omega | (simp; done) | (simp; omega))).trans (by simp [go_sem, *])
  have hc2_1 : w2.cell? ⟨w1.heap.size, 1, none⟩ = some (.int .i64 5) := (hb2.cell (p := ⟨w1.heap.size, 1, none⟩) (by first | omega | (simp; done) | (simp; omega))).trans (by simp [go_sem, *])
  clear hb2
  go_wp2_with fail
  refine (ex_conj _).mono ?_
  rintro e w3 ⟨rfl, hb3⟩
  have hB3 : Below w.heap.size w w3 := Below.after (by go_grown) hb3
  have hs3 : w.heap.size ≤ w3.heap.size := hB3.size
  have hz3_0 : w1.heap.size < w3.heap.size := by have := hb3.size; (try simp at this); omega
  have hc3_0 : w3.cell? ⟨w1.heap.size, 0, none⟩ = some (.int .i64 5) := (hb3.cell (p := ⟨w1.heap.size, 0, none⟩) (by first | omega | (simp; done) | (simp; omega))).trans (by simp [go_sem, *])
  have hc3_1 : w3.cell? ⟨w1.heap.size, 1, none⟩ = some (.int .i64 5) := (hb3.cell (p := ⟨w1.heap.size, 1, none⟩) (by first | omega | (simp; done) | (simp; omega))).trans (by simp [go_sem, *])
  clear hb3
  clear hc2_0 hc2_1
  go_wp2_with fail
  refine (ex_meas _).mono ?_
  rintro e w4 ⟨rfl, hb4⟩
  have hB4 : Below w.heap.size w w4 := Below.after (by go_grown) hb4
  have hs4 : w.heap.size ≤ w4.heap.size := hB4.size
  have hz4_0 : w1.heap.size < w4.heap.size := by have := hb4.size; (try simp at this); omega
  have hz4_1 : w3.heap.size < w4.heap.size := by have := hb4.size; (try simp at this); omega
  have hc4_0 : w4.cell? ⟨w1.heap.size, 0, none⟩ = some (.int .i64 5) := (hb4.cell (p := ⟨w1.heap.size, 0, none⟩) (by first | omega | (simp; done) | (simp; omega))).trans (by simp [go_sem, *])
  have hc4_1 : w4.cell? ⟨w1.heap.size, 1, none⟩ = some (.int .i64 5) := (hb4.cell (p := ⟨w1.heap.size, 1, none⟩) (by first | omega | (simp; done) | (simp; omega))).trans (by simp [go_sem, *])
  have hc4_2 : w4.cell? ⟨w3.heap.size, 0, none⟩ = some (.int .i64 0) := (hb4.cell (p := ⟨w3.heap.size, 0, none⟩) (by first | omega | (simp; done) | (simp; omega))).trans (by simp [go_sem, *])
  have hc4_3 : w4.cell? ⟨w3.heap.size, 1, none⟩ = some (.int .i64 (-7)) := (hb4.cell (p := ⟨w3.heap.size, 1, none⟩) (by first | omega | (simp; done) | (simp; omega))).trans (by simp [go_sem, *])
  clear hb4
  clear hc3_0 hc3_1
  go_wp2_with fail
  go_ret
  refine ⟨rfl, ?_⟩
  go_grown
end Go.Proofs.Ytkjmnmcekhnkmab
