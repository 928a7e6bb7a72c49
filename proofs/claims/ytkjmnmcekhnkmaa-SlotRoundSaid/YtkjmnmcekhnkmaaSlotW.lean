/- The chapter's examples on slots (awake), as a contract: they all hold. -/
import Derived.Test.YtkjmnmcekhnkmaaSlotA
namespace Go.Proofs.Ytkjmnmcekhnkmaa.Sl
open Go.RowKit
set_option linter.unusedSimpArgs false
set_option linter.unusedVariables false

theorem zero33 (w : World) : (zeroValue 33).run Try.prog w = .ok (.agg #[.int .i64 0, .int .i64 0, .int .i64 0, .int .u8 0, .int .i64 0, .slice none 0 0, .slice none 0 0]) w := by kernel_rfl

theorem exp0 (w : World) : Calls Try.prog 11 #[.int .i64 1, .int .i64 6] w fun e w' => e = .returned (.int .i64 0) ∧ w' = w := place_any 1 6 w (by omega)
theorem exp1 (w : World) : Calls Try.prog 11 #[.int .i64 7, .int .i64 6] w fun e w' => e = .returned (.int .i64 0) ∧ w' = w := place_any 7 6 w (by omega)
theorem exp2 (w : World) : Calls Try.prog 11 #[.int .i64 6, .int .i64 6] w fun e w' => e = .returned (.int .i64 5) ∧ w' = w := place_any 6 6 w (by omega)
theorem exp3 (w : World) : Calls Try.prog 11 #[.int .i64 0, .int .i64 6] w fun e w' => e = .returned (.int .i64 (-1)) ∧ w' = w := place_any 0 6 w (by omega)
theorem exi0 (w : World) : Calls Try.prog 14 #[.agg #[.int .i64 1, .int .i64 0, .int .i64 0, .int .u8 0, .int .i64 0, .slice none 0 0, .slice none 0 0], .int .i64 1, .int .i64 6] w fun e w' => e = .returned (.int .u8 2) ∧ Below w.heap.size w w' := is_any 1 1 6 _ _ _ _ _ _ w (by omega) (by omega)
theorem exi1 (w : World) : Calls Try.prog 14 #[.agg #[.int .i64 1, .int .i64 0, .int .i64 0, .int .u8 0, .int .i64 0, .slice none 0 0, .slice none 0 0], .int .i64 7, .int .i64 6] w fun e w' => e = .returned (.int .u8 1) ∧ Below w.heap.size w w' := is_any 1 7 6 _ _ _ _ _ _ w (by omega) (by omega)
theorem exi2 (w : World) : Calls Try.prog 14 #[.agg #[.int .i64 1, .int .i64 0, .int .i64 0, .int .u8 0, .int .i64 0, .slice none 0 0, .slice none 0 0], .int .i64 13, .int .i64 6] w fun e w' => e = .returned (.int .u8 0) ∧ Below w.heap.size w w' := is_any 1 13 6 _ _ _ _ _ _ w (by omega) (by omega)
theorem exi3 (w : World) : Calls Try.prog 14 #[.agg #[.int .i64 9, .int .i64 0, .int .i64 0, .int .u8 0, .int .i64 0, .slice none 0 0, .slice none 0 0], .int .i64 3, .int .i64 6] w fun e w' => e = .returned (.int .u8 3) ∧ Below w.heap.size w w' := is_any 9 3 6 _ _ _ _ _ _ w (by omega) (by omega)
theorem exi4 (w : World) : Calls Try.prog 14 #[.agg #[.int .i64 0, .int .i64 0, .int .i64 0, .int .u8 0, .int .i64 0, .slice none 0 0, .slice none 0 0], .int .i64 6, .int .i64 6] w fun e w' => e = .returned (.int .u8 1) ∧ Below w.heap.size w w' := is_any 0 6 6 _ _ _ _ _ _ w (by omega) (by omega)
theorem exi5 (w : World) : Calls Try.prog 14 #[.agg #[.int .i64 0, .int .i64 0, .int .i64 0, .int .u8 0, .int .i64 0, .slice none 0 0, .slice none 0 0], .int .i64 7, .int .i64 6] w fun e w' => e = .returned (.int .u8 0) ∧ Below w.heap.size w w' := is_any 0 7 6 _ _ _ _ _ _ w (by omega) (by omega)

set_option maxRecDepth 100000 in
set_option maxHeartbeats 4000000 in
theorem awake_any (w : World) : Calls Try.prog 10 #[] w fun e w' => e = .returned (.bool true) ∧ Below w.heap.size w w' := by
  have hz := zero33
  go_enter Try.func10, Try.ntmps10
  go_wp2_with fail
  refine (exp0 _).mono ?_
  rintro e w' ⟨rfl, hq⟩
  subst hq
  go_wp2_with fail
  refine (exp1 _).mono ?_
  rintro e w' ⟨rfl, hq⟩
  subst hq
  go_wp2_with fail
  refine (exp2 _).mono ?_
  rintro e w' ⟨rfl, hq⟩
  subst hq
  go_wp2_with fail
  refine (exp3 _).mono ?_
  rintro e w' ⟨rfl, hq⟩
  subst hq
  go_wp2_with fail
  refine (exi0 _).mono ?_
  rintro e w1 ⟨rfl, hb1⟩
  have hB1 : Below w.heap.size w w1 := below_after (by first | (go_grown; done) | (refine below_drewN ?_ _; go_grown; done)) hb1
  have hs1 : w.heap.size ≤ w1.heap.size := hB1.size
  have hz1_0 : w.heap.size < w1.heap.size := by have := hb1.size; (try simp at this); omega
  have hc1_0 : w1.cell? ⟨w.heap.size, 0, none⟩ = some (.int .i64 1) := (hb1.cell (p := ⟨w.heap.size, 0, none⟩) (by first | omega | (simp; done) | (simp; omega))).trans (by simp [go_sem, *])
  have hc1_1 : w1.cell? ⟨w.heap.size, 1, none⟩ = some (.int .i64 0) := (hb1.cell (p := ⟨w.heap.size, 1, none⟩) (by first | omega | (simp; done) | (simp; omega))).trans (by simp [go_sem, *])
  have hc1_2 : w1.cell? ⟨w.heap.size, 2, none⟩ = some (.int .i64 0) := (hb1.cell (p := ⟨w.heap.size, 2, none⟩) (by first | omega | (simp; done) | (simp; omega))).trans (by simp [go_sem, *])
  have hc1_3 : w1.cell? ⟨w.heap.size, 3, none⟩ = some (.int .u8 0) := (hb1.cell (p := ⟨w.heap.size, 3, none⟩) (by first | omega | (simp; done) | (simp; omega))).trans (by simp [go_sem, *])
  have hc1_4 : w1.cell? ⟨w.heap.size, 4, none⟩ = some (.int .i64 0) := (hb1.cell (p := ⟨w.heap.size, 4, none⟩) (by first | omega | (simp; done) | (simp; omega))).trans (by simp [go_sem, *])
  have hc1_5 : w1.cell? ⟨w.heap.size, 5, none⟩ = some (.slice none 0 0) := (hb1.cell (p := ⟨w.heap.size, 5, none⟩) (by first | omega | (simp; done) | (simp; omega))).trans (by simp [go_sem, *])
  have hc1_6 : w1.cell? ⟨w.heap.size, 6, none⟩ = some (.slice none 0 0) := (hb1.cell (p := ⟨w.heap.size, 6, none⟩) (by first | omega | (simp; done) | (simp; omega))).trans (by simp [go_sem, *])
  clear hb1
  go_wp2_with fail
  refine (exi1 _).mono ?_
  rintro e w2 ⟨rfl, hb2⟩
  have hB2 : Below w.heap.size w w2 := below_after (by first | (go_grown; done) | (refine below_drewN ?_ _; go_grown; done)) hb2
  have hs2 : w.heap.size ≤ w2.heap.size := hB2.size
  have hz2_0 : w.heap.size < w2.heap.size := by have := hb2.size; (try simp at this); omega
  have hc2_0 : w2.cell? ⟨w.heap.size, 0, none⟩ = some (.int .i64 1) := (hb2.cell (p := ⟨w.heap.size, 0, none⟩) (by first | omega | (simp; done) | (simp; omega))).trans (by simp [go_sem, *])
  have hc2_1 : w2.cell? ⟨w.heap.size, 1, none⟩ = some (.int .i64 0) := (hb2.cell (p := ⟨w.heap.size, 1, none⟩) (by first | omega | (simp; done) | (simp; omega))).trans (by simp [go_sem, *])
  have hc2_2 : w2.cell? ⟨w.heap.size, 2, none⟩ = some (.int .i64 0) := (hb2.cell (p := ⟨w.heap.size, 2, none⟩) (by first | omega | (simp; done) | (simp; omega))).trans (by simp [go_sem, *])
  have hc2_3 : w2.cell? ⟨w.heap.size, 3, none⟩ = some (.int .u8 0) := (hb2.cell (p := ⟨w.heap.size, 3, none⟩) (by first | omega | (simp; done) | (simp; omega))).trans (by simp [go_sem, *])
  have hc2_4 : w2.cell? ⟨w.heap.size, 4, none⟩ = some (.int .i64 0) := (hb2.cell (p := ⟨w.heap.size, 4, none⟩) (by first | omega | (simp; done) | (simp; omega))).trans (by simp [go_sem, *])
  have hc2_5 : w2.cell? ⟨w.heap.size, 5, none⟩ = some (.slice none 0 0) := (hb2.cell (p := ⟨w.heap.size, 5, none⟩) (by first | omega | (simp; done) | (simp; omega))).trans (by simp [go_sem, *])
  have hc2_6 : w2.cell? ⟨w.heap.size, 6, none⟩ = some (.slice none 0 0) := (hb2.cell (p := ⟨w.heap.size, 6, none⟩) (by first | omega | (simp; done) | (simp; omega))).trans (by simp [go_sem, *])
  clear hc1_0 hc1_1 hc1_2 hc1_3 hc1_4 hc1_5 hc1_6
  clear hb2
  go_wp2_with fail
  refine (exi2 _).mono ?_
  rintro e w3 ⟨rfl, hb3⟩
  have hB3 : Below w.heap.size w w3 := below_after (by first | (go_grown; done) | (refine below_drewN ?_ _; go_grown; done)) hb3
  have hs3 : w.heap.size ≤ w3.heap.size := hB3.size
  have hz3_0 : w.heap.size < w3.heap.size := by have := hb3.size; (try simp at this); omega
  have hc3_0 : w3.cell? ⟨w.heap.size, 0, none⟩ = some (.int .i64 1) := (hb3.cell (p := ⟨w.heap.size, 0, none⟩) (by first | omega | (simp; done) | (simp; omega))).trans (by simp [go_sem, *])
  have hc3_1 : w3.cell? ⟨w.heap.size, 1, none⟩ = some (.int .i64 0) := (hb3.cell (p := ⟨w.heap.size, 1, none⟩) (by first | omega | (simp; done) | (simp; omega))).trans (by simp [go_sem, *])
  have hc3_2 : w3.cell? ⟨w.heap.size, 2, none⟩ = some (.int .i64 0) := (hb3.cell (p := ⟨w.heap.size, 2, none⟩) (by first | omega | (simp; done) | (simp; omega))).trans (by simp [go_sem, *])
  have hc3_3 : w3.cell? ⟨w.heap.size, 3, none⟩ = some (.int .u8 0) := (hb3.cell (p := ⟨w.heap.size, 3, none⟩) (by first | omega | (simp; done) | (simp; omega))).trans (by simp [go_sem, *])
  have hc3_4 : w3.cell? ⟨w.heap.size, 4, none⟩ = some (.int .i64 0) := (hb3.cell (p := ⟨w.heap.size, 4, none⟩) (by first | omega | (simp; done) | (simp; omega))).trans (by simp [go_sem, *])
  have hc3_5 : w3.cell? ⟨w.heap.size, 5, none⟩ = some (.slice none 0 0) := (hb3.cell (p := ⟨w.heap.size, 5, none⟩) (by first | omega | (simp; done) | (simp; omega))).trans (by simp [go_sem, *])
  have hc3_6 : w3.cell? ⟨w.heap.size, 6, none⟩ = some (.slice none 0 0) := (hb3.cell (p := ⟨w.heap.size, 6, none⟩) (by first | omega | (simp; done) | (simp; omega))).trans (by simp [go_sem, *])
  clear hc2_0 hc2_1 hc2_2 hc2_3 hc2_4 hc2_5 hc2_6
  clear hb3
  go_wp2_with fail
  refine (exi3 _).mono ?_
  rintro e w4 ⟨rfl, hb4⟩
  have hB4 : Below w.heap.size w w4 := below_after (by first | (go_grown; done) | (refine below_drewN ?_ _; go_grown; done)) hb4
  have hs4 : w.heap.size ≤ w4.heap.size := hB4.size
  have hz4_0 : w.heap.size < w4.heap.size := by have := hb4.size; (try simp at this); omega
  have hc4_0 : w4.cell? ⟨w.heap.size, 0, none⟩ = some (.int .i64 1) := (hb4.cell (p := ⟨w.heap.size, 0, none⟩) (by first | omega | (simp; done) | (simp; omega))).trans (by simp [go_sem, *])
  have hc4_1 : w4.cell? ⟨w.heap.size, 1, none⟩ = some (.int .i64 0) := (hb4.cell (p := ⟨w.heap.size, 1, none⟩) (by first | omega | (simp; done) | (simp; omega))).trans (by simp [go_sem, *])
  have hc4_2 : w4.cell? ⟨w.heap.size, 2, none⟩ = some (.int .i64 0) := (hb4.cell (p := ⟨w.heap.size, 2, none⟩) (by first | omega | (simp; done) | (simp; omega))).trans (by simp [go_sem, *])
  have hc4_3 : w4.cell? ⟨w.heap.size, 3, none⟩ = some (.int .u8 0) := (hb4.cell (p := ⟨w.heap.size, 3, none⟩) (by first | omega | (simp; done) | (simp; omega))).trans (by simp [go_sem, *])
  have hc4_4 : w4.cell? ⟨w.heap.size, 4, none⟩ = some (.int .i64 0) := (hb4.cell (p := ⟨w.heap.size, 4, none⟩) (by first | omega | (simp; done) | (simp; omega))).trans (by simp [go_sem, *])
  have hc4_5 : w4.cell? ⟨w.heap.size, 5, none⟩ = some (.slice none 0 0) := (hb4.cell (p := ⟨w.heap.size, 5, none⟩) (by first | omega | (simp; done) | (simp; omega))).trans (by simp [go_sem, *])
  have hc4_6 : w4.cell? ⟨w.heap.size, 6, none⟩ = some (.slice none 0 0) := (hb4.cell (p := ⟨w.heap.size, 6, none⟩) (by first | omega | (simp; done) | (simp; omega))).trans (by simp [go_sem, *])
  clear hc3_0 hc3_1 hc3_2 hc3_3 hc3_4 hc3_5 hc3_6
  clear hb4
  go_wp2_with fail
  refine (exi4 _).mono ?_
  rintro e w5 ⟨rfl, hb5⟩
  have hB5 : Below w.heap.size w w5 := below_after (by first | (go_grown; done) | (refine below_drewN ?_ _; go_grown; done)) hb5
  have hs5 : w.heap.size ≤ w5.heap.size := hB5.size
  have hz5_0 : w.heap.size < w5.heap.size := by have := hb5.size; (try simp at this); omega
  have hc5_0 : w5.cell? ⟨w.heap.size, 0, none⟩ = some (.int .i64 1) := (hb5.cell (p := ⟨w.heap.size, 0, none⟩) (by first | omega | (simp; done) | (simp; omega))).trans (by simp [go_sem, *])
  have hc5_1 : w5.cell? ⟨w.heap.size, 1, none⟩ = some (.int .i64 0) := (hb5.cell (p := ⟨w.heap.size, 1, none⟩) (by first | omega | (simp; done) | (simp; omega))).trans (by simp [go_sem, *])
  have hc5_2 : w5.cell? ⟨w.heap.size, 2, none⟩ = some (.int .i64 0) := (hb5.cell (p := ⟨w.heap.size, 2, none⟩) (by first | omega | (simp; done) | (simp; omega))).trans (by simp [go_sem, *])
  have hc5_3 : w5.cell? ⟨w.heap.size, 3, none⟩ = some (.int .u8 0) := (hb5.cell (p := ⟨w.heap.size, 3, none⟩) (by first | omega | (simp; done) | (simp; omega))).trans (by simp [go_sem, *])
  have hc5_4 : w5.cell? ⟨w.heap.size, 4, none⟩ = some (.int .i64 0) := (hb5.cell (p := ⟨w.heap.size, 4, none⟩) (by first | omega | (simp; done) | (simp; omega))).trans (by simp [go_sem, *])
  have hc5_5 : w5.cell? ⟨w.heap.size, 5, none⟩ = some (.slice none 0 0) := (hb5.cell (p := ⟨w.heap.size, 5, none⟩) (by first | omega | (simp; done) | (simp; omega))).trans (by simp [go_sem, *])
  have hc5_6 : w5.cell? ⟨w.heap.size, 6, none⟩ = some (.slice none 0 0) := (hb5.cell (p := ⟨w.heap.size, 6, none⟩) (by first | omega | (simp; done) | (simp; omega))).trans (by simp [go_sem, *])
  clear hc4_0 hc4_1 hc4_2 hc4_3 hc4_4 hc4_5 hc4_6
  clear hb5
  go_wp2_with fail
  refine (exi5 _).mono ?_
  rintro e w6 ⟨rfl, hb6⟩
  have hB6 : Below w.heap.size w w6 := below_after (by first | (go_grown; done) | (refine below_drewN ?_ _; go_grown; done)) hb6
  have hs6 : w.heap.size ≤ w6.heap.size := hB6.size
  have hz6_0 : w.heap.size < w6.heap.size := by have := hb6.size; (try simp at this); omega
  have hc6_0 : w6.cell? ⟨w.heap.size, 0, none⟩ = some (.int .i64 1) := (hb6.cell (p := ⟨w.heap.size, 0, none⟩) (by first | omega | (simp; done) | (simp; omega))).trans (by simp [go_sem, *])
  have hc6_1 : w6.cell? ⟨w.heap.size, 1, none⟩ = some (.int .i64 0) := (hb6.cell (p := ⟨w.heap.size, 1, none⟩) (by first | omega | (simp; done) | (simp; omega))).trans (by simp [go_sem, *])
  have hc6_2 : w6.cell? ⟨w.heap.size, 2, none⟩ = some (.int .i64 0) := (hb6.cell (p := ⟨w.heap.size, 2, none⟩) (by first | omega | (simp; done) | (simp; omega))).trans (by simp [go_sem, *])
  have hc6_3 : w6.cell? ⟨w.heap.size, 3, none⟩ = some (.int .u8 0) := (hb6.cell (p := ⟨w.heap.size, 3, none⟩) (by first | omega | (simp; done) | (simp; omega))).trans (by simp [go_sem, *])
  have hc6_4 : w6.cell? ⟨w.heap.size, 4, none⟩ = some (.int .i64 0) := (hb6.cell (p := ⟨w.heap.size, 4, none⟩) (by first | omega | (simp; done) | (simp; omega))).trans (by simp [go_sem, *])
  have hc6_5 : w6.cell? ⟨w.heap.size, 5, none⟩ = some (.slice none 0 0) := (hb6.cell (p := ⟨w.heap.size, 5, none⟩) (by first | omega | (simp; done) | (simp; omega))).trans (by simp [go_sem, *])
  have hc6_6 : w6.cell? ⟨w.heap.size, 6, none⟩ = some (.slice none 0 0) := (hb6.cell (p := ⟨w.heap.size, 6, none⟩) (by first | omega | (simp; done) | (simp; omega))).trans (by simp [go_sem, *])
  clear hc5_0 hc5_1 hc5_2 hc5_3 hc5_4 hc5_5 hc5_6
  clear hb6
  go_wp2_with fail
  go_ret
  refine ⟨rfl, ?_⟩
  go_grown

end Go.Proofs.Ytkjmnmcekhnkmaa.Sl
