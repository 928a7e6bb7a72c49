/- At the ends of what a part may be: the law's walk, case by case; for every number and either part. -/
import Derived.Test.YtkjmnmcekhnkmabGaussW
import Derived.Deep.DeepCutAuto
namespace Go.Proofs.Ytkjmnmcekhnkmab
open Go.RowKit
set_option linter.unusedSimpArgs false
set_option linter.unusedVariables false

set_option maxRecDepth 100000 in
set_option maxHeartbeats 4000000 in
theorem ends_false_lo (n u1 u2 d1 d2 : Int) (w : World) (h0 : n < -1048576) (h1 : ¬ -1048576 ≤ n)
    (E1 : addV n 0 1 0 = (u1, u2, false)) (E2 : subV n 0 1 0 = (d1, d2, false)) (E3 : mayB n 0 = false) :
    Calls Try.prog 3 #[.int .i64 n, .bool false] w fun e w' => e = .returned (.bool true) ∧ Below w.heap.size w w' := by
  have K1 : Hid (∀ w, Calls Try.prog 11 #[.agg #[.int .i64 n, .int .i64 0], .agg #[.int .i64 1, .int .i64 0]] w fun e w' => e = .returned (.tuple #[.agg #[.int .i64 u1, .int .i64 u2], .bool false]) ∧ Below w.heap.size w w') := by
    apply Lib.hid; intro w; have h := add_any n 0 1 0 w; rw [E1] at h; exact h
  have K2 : Hid (∀ w, Calls Try.prog 12 #[.agg #[.int .i64 n, .int .i64 0], .agg #[.int .i64 1, .int .i64 0]] w fun e w' => e = .returned (.tuple #[.agg #[.int .i64 d1, .int .i64 d2], .bool false]) ∧ Below w.heap.size w w') := by
    apply Lib.hid; intro w; have h := sub_any n 0 1 0 w; rw [E2] at h; exact h
  have K3 : Hid (∀ w, Calls Try.prog 13 #[.agg #[.int .i64 n, .int .i64 0]] w fun e w' => e = .returned (.bool false) ∧ Below w.heap.size w w') := by
    apply Lib.hid; intro w; have h := may_any n 0 w; rw [E3] at h; exact h
  clear E1 E2 E3
  go_enter Try.func3, Try.ntmps3
  go_wp2_with fail
  refine (awake02_any _).mono ?_
  rintro e w1 ⟨rfl, hb1⟩
  have hB1 : Below w.heap.size w w1 := Below.after (by first | (go_grown; done) | (refine below_drewN ?_ _; go_grown; done)) hb1
  have hs1 : w.heap.size ≤ w1.heap.size := hB1.size

  clear hb1
  go_wp2_with fail
  refine (K1.out _).mono ?_
  rintro e w2 ⟨rfl, hb2⟩
  have hB2 : Below w.heap.size w w2 := Below.after (by first | (go_grown; done) | (refine below_drewN ?_ _; go_grown; done)) hb2
  have hs2 : w.heap.size ≤ w2.heap.size := hB2.size
  have hz2_0 : w1.heap.size < w2.heap.size := by have := hb2.size; (try simp at this); omega
  have hz2_1 : w1.heap.size + 1 < w2.heap.size := by have := hb2.size; (try simp at this); omega
  have hc2_0 : w2.cell? ⟨w1.heap.size, 0, none⟩ = some (.int .i64 n) := (hb2.cell (p := ⟨w1.heap.size, 0, none⟩) (by first | omega | (simp; done) | (simp; omega))).trans (by simp [go_sem, *])
  have hc2_1 : w2.cell? ⟨w1.heap.size, 1, none⟩ = some (.int .i64 0) := (hb2.cell (p := ⟨w1.heap.size, 1, none⟩) (by first | omega | (simp; done) | (simp; omega))).trans (by simp [go_sem, *])
  have hc2_2 : w2.cell? ⟨w1.heap.size + 1, 0, none⟩ = some (.int .i64 1) := (hb2.cell (p := ⟨w1.heap.size + 1, 0, none⟩) (by first | omega | (simp; done) | (simp; omega))).trans (by simp [go_sem, *])
  have hc2_3 : w2.cell? ⟨w1.heap.size + 1, 1, none⟩ = some (.int .i64 0) := (hb2.cell (p := ⟨w1.heap.size + 1, 1, none⟩) (by first | omega | (simp; done) | (simp; omega))).trans (by simp [go_sem, *])
  clear hb2
  go_wp2_with fail
  refine (K2.out _).mono ?_
  rintro e w3 ⟨rfl, hb3⟩
  have hB3 : Below w.heap.size w w3 := Below.after (by first | (go_grown; done) | (refine below_drewN ?_ _; go_grown; done)) hb3
  have hs3 : w.heap.size ≤ w3.heap.size := hB3.size
  have hz3_0 : w1.heap.size < w3.heap.size := by have := hb3.size; (try simp at this); omega
  have hz3_1 : w1.heap.size + 1 < w3.heap.size := by have := hb3.size; (try simp at this); omega
  have hz3_2 : w2.heap.size < w3.heap.size := by have := hb3.size; (try simp at this); omega
  have hc3_0 : w3.cell? ⟨w1.heap.size, 0, none⟩ = some (.int .i64 n) := (hb3.cell (p := ⟨w1.heap.size, 0, none⟩) (by first | omega | (simp; done) | (simp; omega))).trans (by simp [go_sem, *])
  have hc3_1 : w3.cell? ⟨w1.heap.size, 1, none⟩ = some (.int .i64 0) := (hb3.cell (p := ⟨w1.heap.size, 1, none⟩) (by first | omega | (simp; done) | (simp; omega))).trans (by simp [go_sem, *])
  have hc3_2 : w3.cell? ⟨w1.heap.size + 1, 0, none⟩ = some (.int .i64 1) := (hb3.cell (p := ⟨w1.heap.size + 1, 0, none⟩) (by first | omega | (simp; done) | (simp; omega))).trans (by simp [go_sem, *])
  have hc3_3 : w3.cell? ⟨w1.heap.size + 1, 1, none⟩ = some (.int .i64 0) := (hb3.cell (p := ⟨w1.heap.size + 1, 1, none⟩) (by first | omega | (simp; done) | (simp; omega))).trans (by simp [go_sem, *])
  have hc3_4 : w3.cell? ⟨w2.heap.size, 0, none⟩ = some (.int .i64 u1) := (hb3.cell (p := ⟨w2.heap.size, 0, none⟩) (by first | omega | (simp; done) | (simp; omega))).trans (by simp [go_sem, *])
  have hc3_5 : w3.cell? ⟨w2.heap.size, 1, none⟩ = some (.int .i64 u2) := (hb3.cell (p := ⟨w2.heap.size, 1, none⟩) (by first | omega | (simp; done) | (simp; omega))).trans (by simp [go_sem, *])
  clear hc2_0 hc2_1 hc2_2 hc2_3
  clear hb3
  go_wp2_with fail
  refine (K3.out _).mono ?_
  rintro e w4 ⟨rfl, hb4⟩
  have hB4 : Below w.heap.size w w4 := Below.after (by first | (go_grown; done) | (refine below_drewN ?_ _; go_grown; done)) hb4
  have hs4 : w.heap.size ≤ w4.heap.size := hB4.size
  have hz4_0 : w1.heap.size < w4.heap.size := by have := hb4.size; (try simp at this); omega
  have hz4_1 : w1.heap.size + 1 < w4.heap.size := by have := hb4.size; (try simp at this); omega
  have hz4_2 : w2.heap.size < w4.heap.size := by have := hb4.size; (try simp at this); omega
  have hz4_3 : w3.heap.size < w4.heap.size := by have := hb4.size; (try simp at this); omega
  have hc4_0 : w4.cell? ⟨w1.heap.size, 0, none⟩ = some (.int .i64 n) := (hb4.cell (p := ⟨w1.heap.size, 0, none⟩) (by first | omega | (simp; done) | (simp; omega))).trans (by simp [go_sem, *])
  have hc4_1 : w4.cell? ⟨w1.heap.size, 1, none⟩ = some (.int .i64 0) := (hb4.cell (p := ⟨w1.heap.size, 1, none⟩) (by first | omega | (simp; done) | (simp; omega))).trans (by simp [go_sem, *])
  have hc4_2 : w4.cell? ⟨w1.heap.size + 1, 0, none⟩ = some (.int .i64 1) := (hb4.cell (p := ⟨w1.heap.size + 1, 0, none⟩) (by first | omega | (simp; done) | (simp; omega))).trans (by simp [go_sem, *])
  have hc4_3 : w4.cell? ⟨w1.heap.size + 1, 1, none⟩ = some (.int .i64 0) := (hb4.cell (p := ⟨w1.heap.size + 1, 1, none⟩) (by first | omega | (simp; done) | (simp; omega))).trans (by simp [go_sem, *])
  have hc4_4 : w4.cell? ⟨w2.heap.size, 0, none⟩ = some (.int .i64 u1) := (hb4.cell (p := ⟨w2.heap.size, 0, none⟩) (by first | omega | (simp; done) | (simp; omega))).trans (by simp [go_sem, *])
  have hc4_5 : w4.cell? ⟨w2.heap.size, 1, none⟩ = some (.int .i64 u2) := (hb4.cell (p := ⟨w2.heap.size, 1, none⟩) (by first | omega | (simp; done) | (simp; omega))).trans (by simp [go_sem, *])
  have hc4_6 : w4.cell? ⟨w3.heap.size, 0, none⟩ = some (.int .i64 d1) := (hb4.cell (p := ⟨w3.heap.size, 0, none⟩) (by first | omega | (simp; done) | (simp; omega))).trans (by simp [go_sem, *])
  have hc4_7 : w4.cell? ⟨w3.heap.size, 1, none⟩ = some (.int .i64 d2) := (hb4.cell (p := ⟨w3.heap.size, 1, none⟩) (by first | omega | (simp; done) | (simp; omega))).trans (by simp [go_sem, *])
  clear hc3_0 hc3_1 hc3_2 hc3_3 hc3_4 hc3_5
  clear hb4
  go_wp2_with fail
  go_ret
  refine ⟨ret_bool (by first | rfl | (simp; omega) | (simp; done)), ?_⟩
  go_grown

set_option maxRecDepth 100000 in
set_option maxHeartbeats 4000000 in
theorem ends_false_hi (n u1 u2 d1 d2 : Int) (w : World) (h0 : 1048576 < n) (h1 : ¬ n ≤ 1048576) (h2 : -1048576 ≤ n)
    (E1 : addV n 0 1 0 = (u1, u2, false)) (E2 : subV n 0 1 0 = (d1, d2, false)) (E3 : mayB n 0 = false) :
    Calls Try.prog 3 #[.int .i64 n, .bool false] w fun e w' => e = .returned (.bool true) ∧ Below w.heap.size w w' := by
  have K1 : Hid (∀ w, Calls Try.prog 11 #[.agg #[.int .i64 n, .int .i64 0], .agg #[.int .i64 1, .int .i64 0]] w fun e w' => e = .returned (.tuple #[.agg #[.int .i64 u1, .int .i64 u2], .bool false]) ∧ Below w.heap.size w w') := by
    apply Lib.hid; intro w; have h := add_any n 0 1 0 w; rw [E1] at h; exact h
  have K2 : Hid (∀ w, Calls Try.prog 12 #[.agg #[.int .i64 n, .int .i64 0], .agg #[.int .i64 1, .int .i64 0]] w fun e w' => e = .returned (.tuple #[.agg #[.int .i64 d1, .int .i64 d2], .bool false]) ∧ Below w.heap.size w w') := by
    apply Lib.hid; intro w; have h := sub_any n 0 1 0 w; rw [E2] at h; exact h
  have K3 : Hid (∀ w, Calls Try.prog 13 #[.agg #[.int .i64 n, .int .i64 0]] w fun e w' => e = .returned (.bool false) ∧ Below w.heap.size w w') := by
    apply Lib.hid; intro w; have h := may_any n 0 w; rw [E3] at h; exact h
  clear E1 E2 E3
  go_enter Try.func3, Try.ntmps3
  go_wp2_with fail
  refine (awake02_any _).mono ?_
  rintro e w1 ⟨rfl, hb1⟩
  have hB1 : Below w.heap.size w w1 := Below.after (by first | (go_grown; done) | (refine below_drewN ?_ _; go_grown; done)) hb1
  have hs1 : w.heap.size ≤ w1.heap.size := hB1.size

  clear hb1
  go_wp2_with fail
  refine (K1.out _).mono ?_
  rintro e w2 ⟨rfl, hb2⟩
  have hB2 : Below w.heap.size w w2 := Below.after (by first | (go_grown; done) | (refine below_drewN ?_ _; go_grown; done)) hb2
  have hs2 : w.heap.size ≤ w2.heap.size := hB2.size
  have hz2_0 : w1.heap.size < w2.heap.size := by have := hb2.size; (try simp at this); omega
  have hz2_1 : w1.heap.size + 1 < w2.heap.size := by have := hb2.size; (try simp at this); omega
  have hc2_0 : w2.cell? ⟨w1.heap.size, 0, none⟩ = some (.int .i64 n) := (hb2.cell (p := ⟨w1.heap.size, 0, none⟩) (by first | omega | (simp; done) | (simp; omega))).trans (by simp [go_sem, *])
  have hc2_1 : w2.cell? ⟨w1.heap.size, 1, none⟩ = some (.int .i64 0) := (hb2.cell (p := ⟨w1.heap.size, 1, none⟩) (by first | omega | (simp; done) | (simp; omega))).trans (by simp [go_sem, *])
  have hc2_2 : w2.cell? ⟨w1.heap.size + 1, 0, none⟩ = some (.int .i64 1) := (hb2.cell (p := ⟨w1.heap.size + 1, 0, none⟩) (by first | omega | (simp; done) | (simp; omega))).trans (by simp [go_sem, *])
  have hc2_3 : w2.cell? ⟨w1.heap.size + 1, 1, none⟩ = some (.int .i64 0) := (hb2.cell (p := ⟨w1.heap.size + 1, 1, none⟩) (by first | omega | (simp; done) | (simp; omega))).trans (by simp [go_sem, *])
  clear hb2
  go_wp2_with fail
  refine (K2.out _).mono ?_
  rintro e w3 ⟨rfl, hb3⟩
  have hB3 : Below w.heap.size w w3 := Below.after (by first | (go_grown; done) | (refine below_drewN ?_ _; go_grown; done)) hb3
  have hs3 : w.heap.size ≤ w3.heap.size := hB3.size
  have hz3_0 : w1.heap.size < w3.heap.size := by have := hb3.size; (try simp at this); omega
  have hz3_1 : w1.heap.size + 1 < w3.heap.size := by have := hb3.size; (try simp at this); omega
  have hz3_2 : w2.heap.size < w3.heap.size := by have := hb3.size; (try simp at this); omega
  have hc3_0 : w3.cell? ⟨w1.heap.size, 0, none⟩ = some (.int .i64 n) := (hb3.cell (p := ⟨w1.heap.size, 0, none⟩) (by first | omega | (simp; done) | (simp; omega))).trans (by simp [go_sem, *])
  have hc3_1 : w3.cell? ⟨w1.heap.size, 1, none⟩ = some (.int .i64 0) := (hb3.cell (p := ⟨w1.heap.size, 1, none⟩) (by first | omega | (simp; done) | (simp; omega))).trans (by simp [go_sem, *])
  have hc3_2 : w3.cell? ⟨w1.heap.size + 1, 0, none⟩ = some (.int .i64 1) := (hb3.cell (p := ⟨w1.heap.size + 1, 0, none⟩) (by first | omega | (simp; done) | (simp; omega))).trans (by simp [go_sem, *])
  have hc3_3 : w3.cell? ⟨w1.heap.size + 1, 1, none⟩ = some (.int .i64 0) := (hb3.cell (p := ⟨w1.heap.size + 1, 1, none⟩) (by first | omega | (simp; done) | (simp; omega))).trans (by simp [go_sem, *])
  have hc3_4 : w3.cell? ⟨w2.heap.size, 0, none⟩ = some (.int .i64 u1) := (hb3.cell (p := ⟨w2.heap.size, 0, none⟩) (by first | omega | (simp; done) | (simp; omega))).trans (by simp [go_sem, *])
  have hc3_5 : w3.cell? ⟨w2.heap.size, 1, none⟩ = some (.int .i64 u2) := (hb3.cell (p := ⟨w2.heap.size, 1, none⟩) (by first | omega | (simp; done) | (simp; omega))).trans (by simp [go_sem, *])
  clear hc2_0 hc2_1 hc2_2 hc2_3
  clear hb3
  go_wp2_with fail
  refine (K3.out _).mono ?_
  rintro e w4 ⟨rfl, hb4⟩
  have hB4 : Below w.heap.size w w4 := Below.after (by first | (go_grown; done) | (refine below_drewN ?_ _; go_grown; done)) hb4
  have hs4 : w.heap.size ≤ w4.heap.size := hB4.size
  have hz4_0 : w1.heap.size < w4.heap.size := by have := hb4.size; (try simp at this); omega
  have hz4_1 : w1.heap.size + 1 < w4.heap.size := by have := hb4.size; (try simp at this); omega
  have hz4_2 : w2.heap.size < w4.heap.size := by have := hb4.size; (try simp at this); omega
  have hz4_3 : w3.heap.size < w4.heap.size := by have := hb4.size; (try simp at this); omega
  have hc4_0 : w4.cell? ⟨w1.heap.size, 0, none⟩ = some (.int .i64 n) := (hb4.cell (p := ⟨w1.heap.size, 0, none⟩) (by first | omega | (simp; done) | (simp; omega))).trans (by simp [go_sem, *])
  have hc4_1 : w4.cell? ⟨w1.heap.size, 1, none⟩ = some (.int .i64 0) := (hb4.cell (p := ⟨w1.heap.size, 1, none⟩) (by first | omega | (simp; done) | (simp; omega))).trans (by simp [go_sem, *])
  have hc4_2 : w4.cell? ⟨w1.heap.size + 1, 0, none⟩ = some (.int .i64 1) := (hb4.cell (p := ⟨w1.heap.size + 1, 0, none⟩) (by first | omega | (simp; done) | (simp; omega))).trans (by simp [go_sem, *])
  have hc4_3 : w4.cell? ⟨w1.heap.size + 1, 1, none⟩ = some (.int .i64 0) := (hb4.cell (p := ⟨w1.heap.size + 1, 1, none⟩) (by first | omega | (simp; done) | (simp; omega))).trans (by simp [go_sem, *])
  have hc4_4 : w4.cell? ⟨w2.heap.size, 0, none⟩ = some (.int .i64 u1) := (hb4.cell (p := ⟨w2.heap.size, 0, none⟩) (by first | omega | (simp; done) | (simp; omega))).trans (by simp [go_sem, *])
  have hc4_5 : w4.cell? ⟨w2.heap.size, 1, none⟩ = some (.int .i64 u2) := (hb4.cell (p := ⟨w2.heap.size, 1, none⟩) (by first | omega | (simp; done) | (simp; omega))).trans (by simp [go_sem, *])
  have hc4_6 : w4.cell? ⟨w3.heap.size, 0, none⟩ = some (.int .i64 d1) := (hb4.cell (p := ⟨w3.heap.size, 0, none⟩) (by first | omega | (simp; done) | (simp; omega))).trans (by simp [go_sem, *])
  have hc4_7 : w4.cell? ⟨w3.heap.size, 1, none⟩ = some (.int .i64 d2) := (hb4.cell (p := ⟨w3.heap.size, 1, none⟩) (by first | omega | (simp; done) | (simp; omega))).trans (by simp [go_sem, *])
  clear hc3_0 hc3_1 hc3_2 hc3_3 hc3_4 hc3_5
  clear hb4
  go_wp2_with fail
  go_ret
  refine ⟨ret_bool (by first | rfl | (simp; omega) | (simp; done)), ?_⟩
  go_grown

set_option maxRecDepth 100000 in
set_option maxHeartbeats 4000000 in
theorem ends_false_min (n u1 u2 d1 d2 : Int) (w : World) (h0 : -1048576 ≤ n) (h1 : n ≤ 1048576) (h2 : n < 1048576) (h3 : ¬ -1048576 < n)
    (E1 : addV n 0 1 0 = (u1, u2, true)) (E2 : subV n 0 1 0 = (d1, d2, false)) (E3 : mayB n 0 = true) :
    Calls Try.prog 3 #[.int .i64 n, .bool false] w fun e w' => e = .returned (.bool true) ∧ Below w.heap.size w w' := by
  have K1 : Hid (∀ w, Calls Try.prog 11 #[.agg #[.int .i64 n, .int .i64 0], .agg #[.int .i64 1, .int .i64 0]] w fun e w' => e = .returned (.tuple #[.agg #[.int .i64 u1, .int .i64 u2], .bool true]) ∧ Below w.heap.size w w') := by
    apply Lib.hid; intro w; have h := add_any n 0 1 0 w; rw [E1] at h; exact h
  have K2 : Hid (∀ w, Calls Try.prog 12 #[.agg #[.int .i64 n, .int .i64 0], .agg #[.int .i64 1, .int .i64 0]] w fun e w' => e = .returned (.tuple #[.agg #[.int .i64 d1, .int .i64 d2], .bool false]) ∧ Below w.heap.size w w') := by
    apply Lib.hid; intro w; have h := sub_any n 0 1 0 w; rw [E2] at h; exact h
  have K3 : Hid (∀ w, Calls Try.prog 13 #[.agg #[.int .i64 n, .int .i64 0]] w fun e w' => e = .returned (.bool true) ∧ Below w.heap.size w w') := by
    apply Lib.hid; intro w; have h := may_any n 0 w; rw [E3] at h; exact h
  clear E1 E2 E3
  go_enter Try.func3, Try.ntmps3
  go_wp2_with fail
  refine (awake02_any _).mono ?_
  rintro e w1 ⟨rfl, hb1⟩
  have hB1 : Below w.heap.size w w1 := Below.after (by first | (go_grown; done) | (refine below_drewN ?_ _; go_grown; done)) hb1
  have hs1 : w.heap.size ≤ w1.heap.size := hB1.size

  clear hb1
  go_wp2_with fail
  refine (K1.out _).mono ?_
  rintro e w2 ⟨rfl, hb2⟩
  have hB2 : Below w.heap.size w w2 := Below.after (by first | (go_grown; done) | (refine below_drewN ?_ _; go_grown; done)) hb2
  have hs2 : w.heap.size ≤ w2.heap.size := hB2.size
  have hz2_0 : w1.heap.size < w2.heap.size := by have := hb2.size; (try simp at this); omega
  have hz2_1 : w1.heap.size + 1 < w2.heap.size := by have := hb2.size; (try simp at this); omega
  have hc2_0 : w2.cell? ⟨w1.heap.size, 0, none⟩ = some (.int .i64 n) := (hb2.cell (p := ⟨w1.heap.size, 0, none⟩) (by first | omega | (simp; done) | (simp; omega))).trans (by simp [go_sem, *])
  have hc2_1 : w2.cell? ⟨w1.heap.size, 1, none⟩ = some (.int .i64 0) := (hb2.cell (p := ⟨w1.heap.size, 1, none⟩) (by first | omega | (simp; done) | (simp; omega))).trans (by simp [go_sem, *])
  have hc2_2 : w2.cell? ⟨w1.heap.size + 1, 0, none⟩ = some (.int .i64 1) := (hb2.cell (p := ⟨w1.heap.size + 1, 0, none⟩) (by first | omega | (simp; done) | (simp; omega))).trans (by simp [go_sem, *])
  have hc2_3 : w2.cell? ⟨w1.heap.size + 1, 1, none⟩ = some (.int .i64 0) := (hb2.cell (p := ⟨w1.heap.size + 1, 1, none⟩) (by first | omega | (simp; done) | (simp; omega))).trans (by simp [go_sem, *])
  clear hb2
  go_wp2_with fail
  refine (K2.out _).mono ?_
  rintro e w3 ⟨rfl, hb3⟩
  have hB3 : Below w.heap.size w w3 := Below.after (by first | (go_grown; done) | (refine below_drewN ?_ _; go_grown; done)) hb3
  have hs3 : w.heap.size ≤ w3.heap.size := hB3.size
  have hz3_0 : w1.heap.size < w3.heap.size := by have := hb3.size; (try simp at this); omega
  have hz3_1 : w1.heap.size + 1 < w3.heap.size := by have := hb3.size; (try simp at this); omega
  have hz3_2 : w2.heap.size < w3.heap.size := by have := hb3.size; (try simp at this); omega
  have hc3_0 : w3.cell? ⟨w1.heap.size, 0, none⟩ = some (.int .i64 n) := (hb3.cell (p := ⟨w1.heap.size, 0, none⟩) (by first | omega | (simp; done) | (simp; omega))).trans (by simp [go_sem, *])
  have hc3_1 : w3.cell? ⟨w1.heap.size, 1, none⟩ = some (.int .i64 0) := (hb3.cell (p := ⟨w1.heap.size, 1, none⟩) (by first | omega | (simp; done) | (simp; omega))).trans (by simp [go_sem, *])
  have hc3_2 : w3.cell? ⟨w1.heap.size + 1, 0, none⟩ = some (.int .i64 1) := (hb3.cell (p := ⟨w1.heap.size + 1, 0, none⟩) (by first | omega | (simp; done) | (simp; omega))).trans (by simp [go_sem, *])
  have hc3_3 : w3.cell? ⟨w1.heap.size + 1, 1, none⟩ = some (.int .i64 0) := (hb3.cell (p := ⟨w1.heap.size + 1, 1, none⟩) (by first | omega | (simp; done) | (simp; omega))).trans (by simp [go_sem, *])
  have hc3_4 : w3.cell? ⟨w2.heap.size, 0, none⟩ = some (.int .i64 u1) := (hb3.cell (p := ⟨w2.heap.size, 0, none⟩) (by first | omega | (simp; done) | (simp; omega))).trans (by simp [go_sem, *])
  have hc3_5 : w3.cell? ⟨w2.heap.size, 1, none⟩ = some (.int .i64 u2) := (hb3.cell (p := ⟨w2.heap.size, 1, none⟩) (by first | omega | (simp; done) | (simp; omega))).trans (by simp [go_sem, *])
  clear hc2_0 hc2_1 hc2_2 hc2_3
  clear hb3
  go_wp2_with fail
  refine (K3.out _).mono ?_
  rintro e w4 ⟨rfl, hb4⟩
  have hB4 : Below w.heap.size w w4 := Below.after (by first | (go_grown; done) | (refine below_drewN ?_ _; go_grown; done)) hb4
  have hs4 : w.heap.size ≤ w4.heap.size := hB4.size
  have hz4_0 : w1.heap.size < w4.heap.size := by have := hb4.size; (try simp at this); omega
  have hz4_1 : w1.heap.size + 1 < w4.heap.size := by have := hb4.size; (try simp at this); omega
  have hz4_2 : w2.heap.size < w4.heap.size := by have := hb4.size; (try simp at this); omega
  have hz4_3 : w3.heap.size < w4.heap.size := by have := hb4.size; (try simp at this); omega
  have hc4_0 : w4.cell? ⟨w1.heap.size, 0, none⟩ = some (.int .i64 n) := (hb4.cell (p := ⟨w1.heap.size, 0, none⟩) (by first | omega | (simp; done) | (simp; omega))).trans (by simp [go_sem, *])
  have hc4_1 : w4.cell? ⟨w1.heap.size, 1, none⟩ = some (.int .i64 0) := (hb4.cell (p := ⟨w1.heap.size, 1, none⟩) (by first | omega | (simp; done) | (simp; omega))).trans (by simp [go_sem, *])
  have hc4_2 : w4.cell? ⟨w1.heap.size + 1, 0, none⟩ = some (.int .i64 1) := (hb4.cell (p := ⟨w1.heap.size + 1, 0, none⟩) (by first | omega | (simp; done) | (simp; omega))).trans (by simp [go_sem, *])
  have hc4_3 : w4.cell? ⟨w1.heap.size + 1, 1, none⟩ = some (.int .i64 0) := (hb4.cell (p := ⟨w1.heap.size + 1, 1, none⟩) (by first | omega | (simp; done) | (simp; omega))).trans (by simp [go_sem, *])
  have hc4_4 : w4.cell? ⟨w2.heap.size, 0, none⟩ = some (.int .i64 u1) := (hb4.cell (p := ⟨w2.heap.size, 0, none⟩) (by first | omega | (simp; done) | (simp; omega))).trans (by simp [go_sem, *])
  have hc4_5 : w4.cell? ⟨w2.heap.size, 1, none⟩ = some (.int .i64 u2) := (hb4.cell (p := ⟨w2.heap.size, 1, none⟩) (by first | omega | (simp; done) | (simp; omega))).trans (by simp [go_sem, *])
  have hc4_6 : w4.cell? ⟨w3.heap.size, 0, none⟩ = some (.int .i64 d1) := (hb4.cell (p := ⟨w3.heap.size, 0, none⟩) (by first | omega | (simp; done) | (simp; omega))).trans (by simp [go_sem, *])
  have hc4_7 : w4.cell? ⟨w3.heap.size, 1, none⟩ = some (.int .i64 d2) := (hb4.cell (p := ⟨w3.heap.size, 1, none⟩) (by first | omega | (simp; done) | (simp; omega))).trans (by simp [go_sem, *])
  clear hc3_0 hc3_1 hc3_2 hc3_3 hc3_4 hc3_5
  clear hb4
  go_wp2_with fail
  go_ret
  refine ⟨ret_bool (by first | rfl | (simp; omega) | (simp; done)), ?_⟩
  go_grown

set_option maxRecDepth 100000 in
set_option maxHeartbeats 4000000 in
theorem ends_false_max (n u1 u2 d1 d2 : Int) (w : World) (h0 : -1048576 ≤ n) (h1 : n ≤ 1048576) (h2 : ¬ n < 1048576) (h3 : -1048576 < n)
    (E1 : addV n 0 1 0 = (u1, u2, false)) (E2 : subV n 0 1 0 = (d1, d2, true)) (E3 : mayB n 0 = true) :
    Calls Try.prog 3 #[.int .i64 n, .bool false] w fun e w' => e = .returned (.bool true) ∧ Below w.heap.size w w' := by
  have K1 : Hid (∀ w, Calls Try.prog 11 #[.agg #[.int .i64 n, .int .i64 0], .agg #[.int .i64 1, .int .i64 0]] w fun e w' => e = .returned (.tuple #[.agg #[.int .i64 u1, .int .i64 u2], .bool false]) ∧ Below w.heap.size w w') := by
    apply Lib.hid; intro w; have h := add_any n 0 1 0 w; rw [E1] at h; exact h
  have K2 : Hid (∀ w, Calls Try.prog 12 #[.agg #[.int .i64 n, .int .i64 0], .agg #[.int .i64 1, .int .i64 0]] w fun e w' => e = .returned (.tuple #[.agg #[.int .i64 d1, .int .i64 d2], .bool true]) ∧ Below w.heap.size w w') := by
    apply Lib.hid; intro w; have h := sub_any n 0 1 0 w; rw [E2] at h; exact h
  have K3 : Hid (∀ w, Calls Try.prog 13 #[.agg #[.int .i64 n, .int .i64 0]] w fun e w' => e = .returned (.bool true) ∧ Below w.heap.size w w') := by
    apply Lib.hid; intro w; have h := may_any n 0 w; rw [E3] at h; exact h
  clear E1 E2 E3
  go_enter Try.func3, Try.ntmps3
  go_wp2_with fail
  refine (awake02_any _).mono ?_
  rintro e w1 ⟨rfl, hb1⟩
  have hB1 : Below w.heap.size w w1 := Below.after (by first | (go_grown; done) | (refine below_drewN ?_ _; go_grown; done)) hb1
  have hs1 : w.heap.size ≤ w1.heap.size := hB1.size

  clear hb1
  go_wp2_with fail
  refine (K1.out _).mono ?_
  rintro e w2 ⟨rfl, hb2⟩
  have hB2 : Below w.heap.size w w2 := Below.after (by first | (go_grown; done) | (refine below_drewN ?_ _; go_grown; done)) hb2
  have hs2 : w.heap.size ≤ w2.heap.size := hB2.size
  have hz2_0 : w1.heap.size < w2.heap.size := by have := hb2.size; (try simp at this); omega
  have hz2_1 : w1.heap.size + 1 < w2.heap.size := by have := hb2.size; (try simp at this); omega
  have hc2_0 : w2.cell? ⟨w1.heap.size, 0, none⟩ = some (.int .i64 n) := (hb2.cell (p := ⟨w1.heap.size, 0, none⟩) (by first | omega | (simp; done) | (simp; omega))).trans (by simp [go_sem, *])
  have hc2_1 : w2.cell? ⟨w1.heap.size, 1, none⟩ = some (.int .i64 0) := (hb2.cell (p := ⟨w1.heap.size, 1, none⟩) (by first | omega | (simp; done) | (simp; omega))).trans (by simp [go_sem, *])
  have hc2_2 : w2.cell? ⟨w1.heap.size + 1, 0, none⟩ = some (.int .i64 1) := (hb2.cell (p := ⟨w1.heap.size + 1, 0, none⟩) (by first | omega | (simp; done) | (simp; omega))).trans (by simp [go_sem, *])
  have hc2_3 : w2.cell? ⟨w1.heap.size + 1, 1, none⟩ = some (.int .i64 0) := (hb2.cell (p := ⟨w1.heap.size + 1, 1, none⟩) (by first | omega | (simp; done) | (simp; omega))).trans (by simp [go_sem, *])
  clear hb2
  go_wp2_with fail
  refine (K2.out _).mono ?_
  rintro e w3 ⟨rfl, hb3⟩
  have hB3 : Below w.heap.size w w3 := Below.after (by first | (go_grown; done) | (refine below_drewN ?_ _; go_grown; done)) hb3
  have hs3 : w.heap.size ≤ w3.heap.size := hB3.size
  have hz3_0 : w1.heap.size < w3.heap.size := by have := hb3.size; (try simp at this); omega
  have hz3_1 : w1.heap.size + 1 < w3.heap.size := by have := hb3.size; (try simp at this); omega
  have hz3_2 : w2.heap.size < w3.heap.size := by have := hb3.size; (try simp at this); omega
  have hc3_0 : w3.cell? ⟨w1.heap.size, 0, none⟩ = some (.int .i64 n) := (hb3.cell (p := ⟨w1.heap.size, 0, none⟩) (by first | omega | (simp; done) | (simp; omega))).trans (by simp [go_sem, *])
  have hc3_1 : w3.cell? ⟨w1.heap.size, 1, none⟩ = some (.int .i64 0) := (hb3.cell (p := ⟨w1.heap.size, 1, none⟩) (by first | omega | (simp; done) | (simp; omega))).trans (by simp [go_sem, *])
  have hc3_2 : w3.cell? ⟨w1.heap.size + 1, 0, none⟩ = some (.int .i64 1) := (hb3.cell (p := ⟨w1.heap.size + 1, 0, none⟩) (by first | omega | (simp; done) | (simp; omega))).trans (by simp [go_sem, *])
  have hc3_3 : w3.cell? ⟨w1.heap.size + 1, 1, none⟩ = some (.int .i64 0) := (hb3.cell (p := ⟨w1.heap.size + 1, 1, none⟩) (by first | omega | (simp; done) | (simp; omega))).trans (by simp [go_sem, *])
  have hc3_4 : w3.cell? ⟨w2.heap.size, 0, none⟩ = some (.int .i64 u1) := (hb3.cell (p := ⟨w2.heap.size, 0, none⟩) (by first | omega | (simp; done) | (simp; omega))).trans (by simp [go_sem, *])
  have hc3_5 : w3.cell? ⟨w2.heap.size, 1, none⟩ = some (.int .i64 u2) := (hb3.cell (p := ⟨w2.heap.size, 1, none⟩) (by first | omega | (simp; done) | (simp; omega))).trans (by simp [go_sem, *])
  clear hc2_0 hc2_1 hc2_2 hc2_3
  clear hb3
  go_wp2_with fail
  refine (K3.out _).mono ?_
  rintro e w4 ⟨rfl, hb4⟩
  have hB4 : Below w.heap.size w w4 := Below.after (by first | (go_grown; done) | (refine below_drewN ?_ _; go_grown; done)) hb4
  have hs4 : w.heap.size ≤ w4.heap.size := hB4.size
  have hz4_0 : w1.heap.size < w4.heap.size := by have := hb4.size; (try simp at this); omega
  have hz4_1 : w1.heap.size + 1 < w4.heap.size := by have := hb4.size; (try simp at this); omega
  have hz4_2 : w2.heap.size < w4.heap.size := by have := hb4.size; (try simp at this); omega
  have hz4_3 : w3.heap.size < w4.heap.size := by have := hb4.size; (try simp at this); omega
  have hc4_0 : w4.cell? ⟨w1.heap.size, 0, none⟩ = some (.int .i64 n) := (hb4.cell (p := ⟨w1.heap.size, 0, none⟩) (by first | omega | (simp; done) | (simp; omega))).trans (by simp [go_sem, *])
  have hc4_1 : w4.cell? ⟨w1.heap.size, 1, none⟩ = some (.int .i64 0) := (hb4.cell (p := ⟨w1.heap.size, 1, none⟩) (by first | omega | (simp; done) | (simp; omega))).trans (by simp [go_sem, *])
  have hc4_2 : w4.cell? ⟨w1.heap.size + 1, 0, none⟩ = some (.int .i64 1) := (hb4.cell (p := ⟨w1.heap.size + 1, 0, none⟩) (by first | omega | (simp; done) | (simp; omega))).trans (by simp [go_sem, *])
  have hc4_3 : w4.cell? ⟨w1.heap.size + 1, 1, none⟩ = some (.int .i64 0) := (hb4.cell (p := ⟨w1.heap.size + 1, 1, none⟩) (by first | omega | (simp; done) | (simp; omega))).trans (by simp [go_sem, *])
  have hc4_4 : w4.cell? ⟨w2.heap.size, 0, none⟩ = some (.int .i64 u1) := (hb4.cell (p := ⟨w2.heap.size, 0, none⟩) (by first | omega | (simp; done) | (simp; omega))).trans (by simp [go_sem, *])
  have hc4_5 : w4.cell? ⟨w2.heap.size, 1, none⟩ = some (.int .i64 u2) := (hb4.cell (p := ⟨w2.heap.size, 1, none⟩) (by first | omega | (simp; done) | (simp; omega))).trans (by simp [go_sem, *])
  have hc4_6 : w4.cell? ⟨w3.heap.size, 0, none⟩ = some (.int .i64 d1) := (hb4.cell (p := ⟨w3.heap.size, 0, none⟩) (by first | omega | (simp; done) | (simp; omega))).trans (by simp [go_sem, *])
  have hc4_7 : w4.cell? ⟨w3.heap.size, 1, none⟩ = some (.int .i64 d2) := (hb4.cell (p := ⟨w3.heap.size, 1, none⟩) (by first | omega | (simp; done) | (simp; omega))).trans (by simp [go_sem, *])
  clear hc3_0 hc3_1 hc3_2 hc3_3 hc3_4 hc3_5
  clear hb4
  go_wp2_with fail
  go_ret
  refine ⟨ret_bool (by first | rfl | (simp; omega) | (simp; done)), ?_⟩
  go_grown

set_option maxRecDepth 100000 in
set_option maxHeartbeats 4000000 in
theorem ends_false_mid (n u1 u2 d1 d2 : Int) (w : World) (h0 : -1048576 ≤ n) (h1 : n ≤ 1048576) (h2 : n < 1048576) (h3 : -1048576 < n)
    (E1 : addV n 0 1 0 = (u1, u2, true)) (E2 : subV n 0 1 0 = (d1, d2, true)) (E3 : mayB n 0 = true) :
    Calls Try.prog 3 #[.int .i64 n, .bool false] w fun e w' => e = .returned (.bool true) ∧ Below w.heap.size w w' := by
  have K1 : Hid (∀ w, Calls Try.prog 11 #[.agg #[.int .i64 n, .int .i64 0], .agg #[.int .i64 1, .int .i64 0]] w fun e w' => e = .returned (.tuple #[.agg #[.int .i64 u1, .int .i64 u2], .bool true]) ∧ Below w.heap.size w w') := by
    apply Lib.hid; intro w; have h := add_any n 0 1 0 w; rw [E1] at h; exact h
  have K2 : Hid (∀ w, Calls Try.prog 12 #[.agg #[.int .i64 n, .int .i64 0], .agg #[.int .i64 1, .int .i64 0]] w fun e w' => e = .returned (.tuple #[.agg #[.int .i64 d1, .int .i64 d2], .bool true]) ∧ Below w.heap.size w w') := by
    apply Lib.hid; intro w; have h := sub_any n 0 1 0 w; rw [E2] at h; exact h
  have K3 : Hid (∀ w, Calls Try.prog 13 #[.agg #[.int .i64 n, .int .i64 0]] w fun e w' => e = .returned (.bool true) ∧ Below w.heap.size w w') := by
    apply Lib.hid; intro w; have h := may_any n 0 w; rw [E3] at h; exact h
  clear E1 E2 E3
  go_enter Try.func3, Try.ntmps3
  go_wp2_with fail
  refine (awake02_any _).mono ?_
  rintro e w1 ⟨rfl, hb1⟩
  have hB1 : Below w.heap.size w w1 := Below.after (by first | (go_grown; done) | (refine below_drewN ?_ _; go_grown; done)) hb1
  have hs1 : w.heap.size ≤ w1.heap.size := hB1.size

  clear hb1
  go_wp2_with fail
  refine (K1.out _).mono ?_
  rintro e w2 ⟨rfl, hb2⟩
  have hB2 : Below w.heap.size w w2 := Below.after (by first | (go_grown; done) | (refine below_drewN ?_ _; go_grown; done)) hb2
  have hs2 : w.heap.size ≤ w2.heap.size := hB2.size
  have hz2_0 : w1.heap.size < w2.heap.size := by have := hb2.size; (try simp at this); omega
  have hz2_1 : w1.heap.size + 1 < w2.heap.size := by have := hb2.size; (try simp at this); omega
  have hc2_0 : w2.cell? ⟨w1.heap.size, 0, none⟩ = some (.int .i64 n) := (hb2.cell (p := ⟨w1.heap.size, 0, none⟩) (by first | omega | (simp; done) | (simp; omega))).trans (by simp [go_sem, *])
  have hc2_1 : w2.cell? ⟨w1.heap.size, 1, none⟩ = some (.int .i64 0) := (hb2.cell (p := ⟨w1.heap.size, 1, none⟩) (by first | omega | (simp; done) | (simp; omega))).trans (by simp [go_sem, *])
  have hc2_2 : w2.cell? ⟨w1.heap.size + 1, 0, none⟩ = some (.int .i64 1) := (hb2.cell (p := ⟨w1.heap.size + 1, 0, none⟩) (by first | omega | (simp; done) | (simp; omega))).trans (by simp [go_sem, *])
  have hc2_3 : w2.cell? ⟨w1.heap.size + 1, 1, none⟩ = some (.int .i64 0) := (hb2.cell (p := ⟨w1.heap.size + 1, 1, none⟩) (by first | omega | (simp; done) | (simp; omega))).trans (by simp [go_sem, *])
  clear hb2
  go_wp2_with fail
  refine (K2.out _).mono ?_
  rintro e w3 ⟨rfl, hb3⟩
  have hB3 : Below w.heap.size w w3 := Below.after (by first | (go_grown; done) | (refine below_drewN ?_ _; go_grown; done)) hb3
  have hs3 : w.heap.size ≤ w3.heap.size := hB3.size
  have hz3_0 : w1.heap.size < w3.heap.size := by have := hb3.size; (try simp at this); omega
  have hz3_1 : w1.heap.size + 1 < w3.heap.size := by have := hb3.size; (try simp at this); omega
  have hz3_2 : w2.heap.size < w3.heap.size := by have := hb3.size; (try simp at this); omega
  have hc3_0 : w3.cell? ⟨w1.heap.size, 0, none⟩ = some (.int .i64 n) := (hb3.cell (p := ⟨w1.heap.size, 0, none⟩) (by first | omega | (simp; done) | (simp; omega))).trans (by simp [go_sem, *])
  have hc3_1 : w3.cell? ⟨w1.heap.size, 1, none⟩ = some (.int .i64 0) := (hb3.cell (p := ⟨w1.heap.size, 1, none⟩) (by first | omega | (simp; done) | (simp; omega))).trans (by simp [go_sem, *])
  have hc3_2 : w3.cell? ⟨w1.heap.size + 1, 0, none⟩ = some (.int .i64 1) := (hb3.cell (p := ⟨w1.heap.size + 1, 0, none⟩) (by first | omega | (simp; done) | (simp; omega))).trans (by simp [go_sem, *])
  have hc3_3 : w3.cell? ⟨w1.heap.size + 1, 1, none⟩ = some (.int .i64 0) := (hb3.cell (p := ⟨w1.heap.size + 1, 1, none⟩) (by first | omega | (simp; done) | (simp; omega))).trans (by simp [go_sem, *])
  have hc3_4 : w3.cell? ⟨w2.heap.size, 0, none⟩ = some (.int .i64 u1) := (hb3.cell (p := ⟨w2.heap.size, 0, none⟩) (by first | omega | (simp; done) | (simp; omega))).trans (by simp [go_sem, *])
  have hc3_5 : w3.cell? ⟨w2.heap.size, 1, none⟩ = some (.int .i64 u2) := (hb3.cell (p := ⟨w2.heap.size, 1, none⟩) (by first | omega | (simp; done) | (simp; omega))).trans (by simp [go_sem, *])
  clear hc2_0 hc2_1 hc2_2 hc2_3
  clear hb3
  go_wp2_with fail
  refine (K3.out _).mono ?_
  rintro e w4 ⟨rfl, hb4⟩
  have hB4 : Below w.heap.size w w4 := Below.after (by first | (go_grown; done) | (refine below_drewN ?_ _; go_grown; done)) hb4
  have hs4 : w.heap.size ≤ w4.heap.size := hB4.size
  have hz4_0 : w1.heap.size < w4.heap.size := by have := hb4.size; (try simp at this); omega
  have hz4_1 : w1.heap.size + 1 < w4.heap.size := by have := hb4.size; (try simp at this); omega
  have hz4_2 : w2.heap.size < w4.heap.size := by have := hb4.size; (try simp at this); omega
  have hz4_3 : w3.heap.size < w4.heap.size := by have := hb4.size; (try simp at this); omega
  have hc4_0 : w4.cell? ⟨w1.heap.size, 0, none⟩ = some (.int .i64 n) := (hb4.cell (p := ⟨w1.heap.size, 0, none⟩) (by first | omega | (simp; done) | (simp; omega))).trans (by simp [go_sem, *])
  have hc4_1 : w4.cell? ⟨w1.heap.size, 1, none⟩ = some (.int .i64 0) := (hb4.cell (p := ⟨w1.heap.size, 1, none⟩) (by first | omega | (simp; done) | (simp; omega))).trans (by simp [go_sem, *])
  have hc4_2 : w4.cell? ⟨w1.heap.size + 1, 0, none⟩ = some (.int .i64 1) := (hb4.cell (p := ⟨w1.heap.size + 1, 0, none⟩) (by first | omega | (simp; done) | (simp; omega))).trans (by simp [go_sem, *])
  have hc4_3 : w4.cell? ⟨w1.heap.size + 1, 1, none⟩ = some (.int .i64 0) := (hb4.cell (p := ⟨w1.heap.size + 1, 1, none⟩) (by first | omega | (simp; done) | (simp; omega))).trans (by simp [go_sem, *])
  have hc4_4 : w4.cell? ⟨w2.heap.size, 0, none⟩ = some (.int .i64 u1) := (hb4.cell (p := ⟨w2.heap.size, 0, none⟩) (by first | omega | (simp; done) | (simp; omega))).trans (by simp [go_sem, *])
  have hc4_5 : w4.cell? ⟨w2.heap.size, 1, none⟩ = some (.int .i64 u2) := (hb4.cell (p := ⟨w2.heap.size, 1, none⟩) (by first | omega | (simp; done) | (simp; omega))).trans (by simp [go_sem, *])
  have hc4_6 : w4.cell? ⟨w3.heap.size, 0, none⟩ = some (.int .i64 d1) := (hb4.cell (p := ⟨w3.heap.size, 0, none⟩) (by first | omega | (simp; done) | (simp; omega))).trans (by simp [go_sem, *])
  have hc4_7 : w4.cell? ⟨w3.heap.size, 1, none⟩ = some (.int .i64 d2) := (hb4.cell (p := ⟨w3.heap.size, 1, none⟩) (by first | omega | (simp; done) | (simp; omega))).trans (by simp [go_sem, *])
  clear hc3_0 hc3_1 hc3_2 hc3_3 hc3_4 hc3_5
  clear hb4
  go_wp2_with fail
  go_ret
  refine ⟨ret_bool (by first | rfl | (simp; omega) | (simp; done)), ?_⟩
  go_grown

set_option maxRecDepth 100000 in
set_option maxHeartbeats 4000000 in
theorem ends_true_lo (n u1 u2 d1 d2 : Int) (w : World) (h0 : n < -1048576) (h1 : ¬ -1048576 ≤ n)
    (E1 : addV 0 n 0 1 = (u1, u2, false)) (E2 : subV 0 n 0 1 = (d1, d2, false)) (E3 : mayB 0 n = false) :
    Calls Try.prog 3 #[.int .i64 n, .bool true] w fun e w' => e = .returned (.bool true) ∧ Below w.heap.size w w' := by
  have K1 : Hid (∀ w, Calls Try.prog 11 #[.agg #[.int .i64 0, .int .i64 n], .agg #[.int .i64 0, .int .i64 1]] w fun e w' => e = .returned (.tuple #[.agg #[.int .i64 u1, .int .i64 u2], .bool false]) ∧ Below w.heap.size w w') := by
    apply Lib.hid; intro w; have h := add_any 0 n 0 1 w; rw [E1] at h; exact h
  have K2 : Hid (∀ w, Calls Try.prog 12 #[.agg #[.int .i64 0, .int .i64 n], .agg #[.int .i64 0, .int .i64 1]] w fun e w' => e = .returned (.tuple #[.agg #[.int .i64 d1, .int .i64 d2], .bool false]) ∧ Below w.heap.size w w') := by
    apply Lib.hid; intro w; have h := sub_any 0 n 0 1 w; rw [E2] at h; exact h
  have K3 : Hid (∀ w, Calls Try.prog 13 #[.agg #[.int .i64 0, .int .i64 n]] w fun e w' => e = .returned (.bool false) ∧ Below w.heap.size w w') := by
    apply Lib.hid; intro w; have h := may_any 0 n w; rw [E3] at h; exact h
  clear E1 E2 E3
  go_enter Try.func3, Try.ntmps3
  go_wp2_with fail
  refine (awake02_any _).mono ?_
  rintro e w1 ⟨rfl, hb1⟩
  have hB1 : Below w.heap.size w w1 := Below.after (by first | (go_grown; done) | (refine below_drewN ?_ _; go_grown; done)) hb1
  have hs1 : w.heap.size ≤ w1.heap.size := hB1.size

  clear hb1
  go_wp2_with fail
  refine (K1.out _).mono ?_
  rintro e w2 ⟨rfl, hb2⟩
  have hB2 : Below w.heap.size w w2 := Below.after (by first | (go_grown; done) | (refine below_drewN ?_ _; go_grown; done)) hb2
  have hs2 : w.heap.size ≤ w2.heap.size := hB2.size
  have hz2_0 : w1.heap.size < w2.heap.size := by have := hb2.size; (try simp at this); omega
  have hz2_1 : w1.heap.size + 1 < w2.heap.size := by have := hb2.size; (try simp at this); omega
  have hc2_0 : w2.cell? ⟨w1.heap.size, 0, none⟩ = some (.int .i64 0) := (hb2.cell (p := ⟨w1.heap.size, 0, none⟩) (by first | omega | (simp; done) | (simp; omega))).trans (by simp [go_sem, *])
  have hc2_1 : w2.cell? ⟨w1.heap.size, 1, none⟩ = some (.int .i64 n) := (hb2.cell (p := ⟨w1.heap.size, 1, none⟩) (by first | omega | (simp; done) | (simp; omega))).trans (by simp [go_sem, *])
  have hc2_2 : w2.cell? ⟨w1.heap.size + 1, 0, none⟩ = some (.int .i64 0) := (hb2.cell (p := ⟨w1.heap.size + 1, 0, none⟩) (by first | omega | (simp; done) | (simp; omega))).trans (by simp [go_sem, *])
  have hc2_3 : w2.cell? ⟨w1.heap.size + 1, 1, none⟩ = some (.int .i64 1) := (hb2.cell (p := ⟨w1.heap.size + 1, 1, none⟩) (by first | omega | (simp; done) | (simp; omega))).trans (by simp [go_sem, *])
  clear hb2
  go_wp2_with fail
  refine (K2.out _).mono ?_
  rintro e w3 ⟨rfl, hb3⟩
  have hB3 : Below w.heap.size w w3 := Below.after (by first | (go_grown; done) | (refine below_drewN ?_ _; go_grown; done)) hb3
  have hs3 : w.heap.size ≤ w3.heap.size := hB3.size
  have hz3_0 : w1.heap.size < w3.heap.size := by have := hb3.size; (try simp at this); omega
  have hz3_1 : w1.heap.size + 1 < w3.heap.size := by have := hb3.size; (try simp at this); omega
  have hz3_2 : w2.heap.size < w3.heap.size := by have := hb3.size; (try simp at this); omega
  have hc3_0 : w3.cell? ⟨w1.heap.size, 0, none⟩ = some (.int .i64 0) := (hb3.cell (p := ⟨w1.heap.size, 0, none⟩) (by first | omega | (simp; done) | (simp; omega))).trans (by simp [go_sem, *])
  have hc3_1 : w3.cell? ⟨w1.heap.size, 1, none⟩ = some (.int .i64 n) := (hb3.cell (p := ⟨w1.heap.size, 1, none⟩) (by first | omega | (simp; done) | (simp; omega))).trans (by simp [go_sem, *])
  have hc3_2 : w3.cell? ⟨w1.heap.size + 1, 0, none⟩ = some (.int .i64 0) := (hb3.cell (p := ⟨w1.heap.size + 1, 0, none⟩) (by first | omega | (simp; done) | (simp; omega))).trans (by simp [go_sem, *])
  have hc3_3 : w3.cell? ⟨w1.heap.size + 1, 1, none⟩ = some (.int .i64 1) := (hb3.cell (p := ⟨w1.heap.size + 1, 1, none⟩) (by first | omega | (simp; done) | (simp; omega))).trans (by simp [go_sem, *])
  have hc3_4 : w3.cell? ⟨w2.heap.size, 0, none⟩ = some (.int .i64 u1) := (hb3.cell (p := ⟨w2.heap.size, 0, none⟩) (by first | omega | (simp; done) | (simp; omega))).trans (by simp [go_sem, *])
  have hc3_5 : w3.cell? ⟨w2.heap.size, 1, none⟩ = some (.int .i64 u2) := (hb3.cell (p := ⟨w2.heap.size, 1, none⟩) (by first | omega | (simp; done) | (simp; omega))).trans (by simp [go_sem, *])
  clear hc2_0 hc2_1 hc2_2 hc2_3
  clear hb3
  go_wp2_with fail
  refine (K3.out _).mono ?_
  rintro e w4 ⟨rfl, hb4⟩
  have hB4 : Below w.heap.size w w4 := Below.after (by first | (go_grown; done) | (refine below_drewN ?_ _; go_grown; done)) hb4
  have hs4 : w.heap.size ≤ w4.heap.size := hB4.size
  have hz4_0 : w1.heap.size < w4.heap.size := by have := hb4.size; (try simp at this); omega
  have hz4_1 : w1.heap.size + 1 < w4.heap.size := by have := hb4.size; (try simp at this); omega
  have hz4_2 : w2.heap.size < w4.heap.size := by have := hb4.size; (try simp at this); omega
  have hz4_3 : w3.heap.size < w4.heap.size := by have := hb4.size; (try simp at this); omega
  have hc4_0 : w4.cell? ⟨w1.heap.size, 0, none⟩ = some (.int .i64 0) := (hb4.cell (p := ⟨w1.heap.size, 0, none⟩) (by first | omega | (simp; done) | (simp; omega))).trans (by simp [go_sem, *])
  have hc4_1 : w4.cell? ⟨w1.heap.size, 1, none⟩ = some (.int .i64 n) := (hb4.cell (p := ⟨w1.heap.size, 1, none⟩) (by first | omega | (simp; done) | (simp; omega))).trans (by simp [go_sem, *])
  have hc4_2 : w4.cell? ⟨w1.heap.size + 1, 0, none⟩ = some (.int .i64 0) := (hb4.cell (p := ⟨w1.heap.size + 1, 0, none⟩) (by first | omega | (simp; done) | (simp; omega))).trans (by simp [go_sem, *])
  have hc4_3 : w4.cell? ⟨w1.heap.size + 1, 1, none⟩ = some (.int .i64 1) := (hb4.cell (p := ⟨w1.heap.size + 1, 1, none⟩) (by first | omega | (simp; done) | (simp; omega))).trans (by simp [go_sem, *])
  have hc4_4 : w4.cell? ⟨w2.heap.size, 0, none⟩ = some (.int .i64 u1) := (hb4.cell (p := ⟨w2.heap.size, 0, none⟩) (by first | omega | (simp; done) | (simp; omega))).trans (by simp [go_sem, *])
  have hc4_5 : w4.cell? ⟨w2.heap.size, 1, none⟩ = some (.int .i64 u2) := (hb4.cell (p := ⟨w2.heap.size, 1, none⟩) (by first | omega | (simp; done) | (simp; omega))).trans (by simp [go_sem, *])
  have hc4_6 : w4.cell? ⟨w3.heap.size, 0, none⟩ = some (.int .i64 d1) := (hb4.cell (p := ⟨w3.heap.size, 0, none⟩) (by first | omega | (simp; done) | (simp; omega))).trans (by simp [go_sem, *])
  have hc4_7 : w4.cell? ⟨w3.heap.size, 1, none⟩ = some (.int .i64 d2) := (hb4.cell (p := ⟨w3.heap.size, 1, none⟩) (by first | omega | (simp; done) | (simp; omega))).trans (by simp [go_sem, *])
  clear hc3_0 hc3_1 hc3_2 hc3_3 hc3_4 hc3_5
  clear hb4
  go_wp2_with fail
  go_ret
  refine ⟨ret_bool (by first | rfl | (simp; omega) | (simp; done)), ?_⟩
  go_grown

set_option maxRecDepth 100000 in
set_option maxHeartbeats 4000000 in
theorem ends_true_hi (n u1 u2 d1 d2 : Int) (w : World) (h0 : 1048576 < n) (h1 : ¬ n ≤ 1048576) (h2 : -1048576 ≤ n)
    (E1 : addV 0 n 0 1 = (u1, u2, false)) (E2 : subV 0 n 0 1 = (d1, d2, false)) (E3 : mayB 0 n = false) :
    Calls Try.prog 3 #[.int .i64 n, .bool true] w fun e w' => e = .returned (.bool true) ∧ Below w.heap.size w w' := by
  have K1 : Hid (∀ w, Calls Try.prog 11 #[.agg #[.int .i64 0, .int .i64 n], .agg #[.int .i64 0, .int .i64 1]] w fun e w' => e = .returned (.tuple #[.agg #[.int .i64 u1, .int .i64 u2], .bool false]) ∧ Below w.heap.size w w') := by
    apply Lib.hid; intro w; have h := add_any 0 n 0 1 w; rw [E1] at h; exact h
  have K2 : Hid (∀ w, Calls Try.prog 12 #[.agg #[.int .i64 0, .int .i64 n], .agg #[.int .i64 0, .int .i64 1]] w fun e w' => e = .returned (.tuple #[.agg #[.int .i64 d1, .int .i64 d2], .bool false]) ∧ Below w.heap.size w w') := by
    apply Lib.hid; intro w; have h := sub_any 0 n 0 1 w; rw [E2] at h; exact h
  have K3 : Hid (∀ w, Calls Try.prog 13 #[.agg #[.int .i64 0, .int .i64 n]] w fun e w' => e = .returned (.bool false) ∧ Below w.heap.size w w') := by
    apply Lib.hid; intro w; have h := may_any 0 n w; rw [E3] at h; exact h
  clear E1 E2 E3
  go_enter Try.func3, Try.ntmps3
  go_wp2_with fail
  refine (awake02_any _).mono ?_
  rintro e w1 ⟨rfl, hb1⟩
  have hB1 : Below w.heap.size w w1 := Below.after (by first | (go_grown; done) | (refine below_drewN ?_ _; go_grown; done)) hb1
  have hs1 : w.heap.size ≤ w1.heap.size := hB1.size

  clear hb1
  go_wp2_with fail
  refine (K1.out _).mono ?_
  rintro e w2 ⟨rfl, hb2⟩
  have hB2 : Below w.heap.size w w2 := Below.after (by first | (go_grown; done) | (refine below_drewN ?_ _; go_grown; done)) hb2
  have hs2 : w.heap.size ≤ w2.heap.size := hB2.size
  have hz2_0 : w1.heap.size < w2.heap.size := by have := hb2.size; (try simp at this); omega
  have hz2_1 : w1.heap.size + 1 < w2.heap.size := by have := hb2.size; (try simp at this); omega
  have hc2_0 : w2.cell? ⟨w1.heap.size, 0, none⟩ = some (.int .i64 0) := (hb2.cell (p := ⟨w1.heap.size, 0, none⟩) (by first | omega | (simp; done) | (simp; omega))).trans (by simp [go_sem, *])
  have hc2_1 : w2.cell? ⟨w1.heap.size, 1, none⟩ = some (.int .i64 n) := (hb2.cell (p := ⟨w1.heap.size, 1, none⟩) (by first | omega | (simp; done) | (simp; omega))).trans (by simp [go_sem, *])
  have hc2_2 : w2.cell? ⟨w1.heap.size + 1, 0, none⟩ = some (.int .i64 0) := (hb2.cell (p := ⟨w1.heap.size + 1, 0, none⟩) (by first | omega | (simp; done) | (simp; omega))).trans (by simp [go_sem, *])
  have hc2_3 : w2.cell? ⟨w1.heap.size + 1, 1, none⟩ = some (.int .i64 1) := (hb2.cell (p := ⟨w1.heap.size + 1, 1, none⟩) (by first | omega | (simp; done) | (simp; omega))).trans (by simp [go_sem, *])
  clear hb2
  go_wp2_with fail
  refine (K2.out _).mono ?_
  rintro e w3 ⟨rfl, hb3⟩
  have hB3 : Below w.heap.size w w3 := Below.after (by first | (go_grown; done) | (refine below_drewN ?_ _; go_grown; done)) hb3
  have hs3 : w.heap.size ≤ w3.heap.size := hB3.size
  have hz3_0 : w1.heap.size < w3.heap.size := by have := hb3.size; (try simp at this); omega
  have hz3_1 : w1.heap.size + 1 < w3.heap.size := by have := hb3.size; (try simp at this); omega
  have hz3_2 : w2.heap.size < w3.heap.size := by have := hb3.size; (try simp at this); omega
  have hc3_0 : w3.cell? ⟨w1.heap.size, 0, none⟩ = some (.int .i64 0) := (hb3.cell (p := ⟨w1.heap.size, 0, none⟩) (by first | omega | (simp; done) | (simp; omega))).trans (by simp [go_sem, *])
  have hc3_1 : w3.cell? ⟨w1.heap.size, 1, none⟩ = some (.int .i64 n) := (hb3.cell (p := ⟨w1.heap.size, 1, none⟩) (by first | omega | (simp; done) | (simp; omega))).trans (by simp [go_sem, *])
  have hc3_2 : w3.cell? ⟨w1.heap.size + 1, 0, none⟩ = some (.int .i64 0) := (hb3.cell (p := ⟨w1.heap.size + 1, 0, none⟩) (by first | omega | (simp; done) | (simp; omega))).trans (by simp [go_sem, *])
  have hc3_3 : w3.cell? ⟨w1.heap.size + 1, 1, none⟩ = some (.int .i64 1) := (hb3.cell (p := ⟨w1.heap.size + 1, 1, none⟩) (by first | omega | (simp; done) | (simp; omega))).trans (by simp [go_sem, *])
  have hc3_4 : w3.cell? ⟨w2.heap.size, 0, none⟩ = some (.int .i64 u1) := (hb3.cell (p := ⟨w2.heap.size, 0, none⟩) (by first | omega | (simp; done) | (simp; omega))).trans (by simp [go_sem, *])
  have hc3_5 : w3.cell? ⟨w2.heap.size, 1, none⟩ = some (.int .i64 u2) := (hb3.cell (p := ⟨w2.heap.size, 1, none⟩) (by first | omega | (simp; done) | (simp; omega))).trans (by simp [go_sem, *])
  clear hc2_0 hc2_1 hc2_2 hc2_3
  clear hb3
  go_wp2_with fail
  refine (K3.out _).mono ?_
  rintro e w4 ⟨rfl, hb4⟩
  have hB4 : Below w.heap.size w w4 := Below.after (by first | (go_grown; done) | (refine below_drewN ?_ _; go_grown; done)) hb4
  have hs4 : w.heap.size ≤ w4.heap.size := hB4.size
  have hz4_0 : w1.heap.size < w4.heap.size := by have := hb4.size; (try simp at this); omega
  have hz4_1 : w1.heap.size + 1 < w4.heap.size := by have := hb4.size; (try simp at this); omega
  have hz4_2 : w2.heap.size < w4.heap.size := by have := hb4.size; (try simp at this); omega
  have hz4_3 : w3.heap.size < w4.heap.size := by have := hb4.size; (try simp at this); omega
  have hc4_0 : w4.cell? ⟨w1.heap.size, 0, none⟩ = some (.int .i64 0) := (hb4.cell (p := ⟨w1.heap.size, 0, none⟩) (by first | omega | (simp; done) | (simp; omega))).trans (by simp [go_sem, *])
  have hc4_1 : w4.cell? ⟨w1.heap.size, 1, none⟩ = some (.int .i64 n) := (hb4.cell (p := ⟨w1.heap.size, 1, none⟩) (by first | omega | (simp; done) | (simp; omega))).trans (by simp [go_sem, *])
  have hc4_2 : w4.cell? ⟨w1.heap.size + 1, 0, none⟩ = some (.int .i64 0) := (hb4.cell (p := ⟨w1.heap.size + 1, 0, none⟩) (by first | omega | (simp; done) | (simp; omega))).trans (by simp [go_sem, *])
  have hc4_3 : w4.cell? ⟨w1.heap.size + 1, 1, none⟩ = some (.int .i64 1) := (hb4.cell (p := ⟨w1.heap.size + 1, 1, none⟩) (by first | omega | (simp; done) | (simp; omega))).trans (by simp [go_sem, *])
  have hc4_4 : w4.cell? ⟨w2.heap.size, 0, none⟩ = some (.int .i64 u1) := (hb4.cell (p := ⟨w2.heap.size, 0, none⟩) (by first | omega | (simp; done) | (simp; omega))).trans (by simp [go_sem, *])
  have hc4_5 : w4.cell? ⟨w2.heap.size, 1, none⟩ = some (.int .i64 u2) := (hb4.cell (p := ⟨w2.heap.size, 1, none⟩) (by first | omega | (simp; done) | (simp; omega))).trans (by simp [go_sem, *])
  have hc4_6 : w4.cell? ⟨w3.heap.size, 0, none⟩ = some (.int .i64 d1) := (hb4.cell (p := ⟨w3.heap.size, 0, none⟩) (by first | omega | (simp; done) | (simp; omega))).trans (by simp [go_sem, *])
  have hc4_7 : w4.cell? ⟨w3.heap.size, 1, none⟩ = some (.int .i64 d2) := (hb4.cell (p := ⟨w3.heap.size, 1, none⟩) (by first | omega | (simp; done) | (simp; omega))).trans (by simp [go_sem, *])
  clear hc3_0 hc3_1 hc3_2 hc3_3 hc3_4 hc3_5
  clear hb4
  go_wp2_with fail
  go_ret
  refine ⟨ret_bool (by first | rfl | (simp; omega) | (simp; done)), ?_⟩
  go_grown

set_option maxRecDepth 100000 in
set_option maxHeartbeats 4000000 in
theorem ends_true_min (n u1 u2 d1 d2 : Int) (w : World) (h0 : -1048576 ≤ n) (h1 : n ≤ 1048576) (h2 : n < 1048576) (h3 : ¬ -1048576 < n)
    (E1 : addV 0 n 0 1 = (u1, u2, true)) (E2 : subV 0 n 0 1 = (d1, d2, false)) (E3 : mayB 0 n = true) :
    Calls Try.prog 3 #[.int .i64 n, .bool true] w fun e w' => e = .returned (.bool true) ∧ Below w.heap.size w w' := by
  have K1 : Hid (∀ w, Calls Try.prog 11 #[.agg #[.int .i64 0, .int .i64 n], .agg #[.int .i64 0, .int .i64 1]] w fun e w' => e = .returned (.tuple #[.agg #[.int .i64 u1, .int .i64 u2], .bool true]) ∧ Below w.heap.size w w') := by
    apply Lib.hid; intro w; have h := add_any 0 n 0 1 w; rw [E1] at h; exact h
  have K2 : Hid (∀ w, Calls Try.prog 12 #[.agg #[.int .i64 0, .int .i64 n], .agg #[.int .i64 0, .int .i64 1]] w fun e w' => e = .returned (.tuple #[.agg #[.int .i64 d1, .int .i64 d2], .bool false]) ∧ Below w.heap.size w w') := by
    apply Lib.hid; intro w; have h := sub_any 0 n 0 1 w; rw [E2] at h; exact h
  have K3 : Hid (∀ w, Calls Try.prog 13 #[.agg #[.int .i64 0, .int .i64 n]] w fun e w' => e = .returned (.bool true) ∧ Below w.heap.size w w') := by
    apply Lib.hid; intro w; have h := may_any 0 n w; rw [E3] at h; exact h
  clear E1 E2 E3
  go_enter Try.func3, Try.ntmps3
  go_wp2_with fail
  refine (awake02_any _).mono ?_
  rintro e w1 ⟨rfl, hb1⟩
  have hB1 : Below w.heap.size w w1 := Below.after (by first | (go_grown; done) | (refine below_drewN ?_ _; go_grown; done)) hb1
  have hs1 : w.heap.size ≤ w1.heap.size := hB1.size

  clear hb1
  go_wp2_with fail
  refine (K1.out _).mono ?_
  rintro e w2 ⟨rfl, hb2⟩
  have hB2 : Below w.heap.size w w2 := Below.after (by first | (go_grown; done) | (refine below_drewN ?_ _; go_grown; done)) hb2
  have hs2 : w.heap.size ≤ w2.heap.size := hB2.size
  have hz2_0 : w1.heap.size < w2.heap.size := by have := hb2.size; (try simp at this); omega
  have hz2_1 : w1.heap.size + 1 < w2.heap.size := by have := hb2.size; (try simp at this); omega
  have hc2_0 : w2.cell? ⟨w1.heap.size, 0, none⟩ = some (.int .i64 0) := (hb2.cell (p := ⟨w1.heap.size, 0, none⟩) (by first | omega | (simp; done) | (simp; omega))).trans (by simp [go_sem, *])
  have hc2_1 : w2.cell? ⟨w1.heap.size, 1, none⟩ = some (.int .i64 n) := (hb2.cell (p := ⟨w1.heap.size, 1, none⟩) (by first | omega | (simp; done) | (simp; omega))).trans (by simp [go_sem, *])
  have hc2_2 : w2.cell? ⟨w1.heap.size + 1, 0, none⟩ = some (.int .i64 0) := (hb2.cell (p := ⟨w1.heap.size + 1, 0, none⟩) (by first | omega | (simp; done) | (simp; omega))).trans (by simp [go_sem, *])
  have hc2_3 : w2.cell? ⟨w1.heap.size + 1, 1, none⟩ = some (.int .i64 1) := (hb2.cell (p := ⟨w1.heap.size + 1, 1, none⟩) (by first | omega | (simp; done) | (simp; omega))).trans (by simp [go_sem, *])
  clear hb2
  go_wp2_with fail
  refine (K2.out _).mono ?_
  rintro e w3 ⟨rfl, hb3⟩
  have hB3 : Below w.heap.size w w3 := Below.after (by first | (go_grown; done) | (refine below_drewN ?_ _; go_grown; done)) hb3
  have hs3 : w.heap.size ≤ w3.heap.size := hB3.size
  have hz3_0 : w1.heap.size < w3.heap.size := by have := hb3.size; (try simp at this); omega
  have hz3_1 : w1.heap.size + 1 < w3.heap.size := by have := hb3.size; (try simp at this); omega
  have hz3_2 : w2.heap.size < w3.heap.size := by have := hb3.size; (try simp at this); omega
  have hc3_0 : w3.cell? ⟨w1.heap.size, 0, none⟩ = some (.int .i64 0) := (hb3.cell (p := ⟨w1.heap.size, 0, none⟩) (by first | omega | (simp; done) | (simp; omega))).trans (by simp [go_sem, *])
  have hc3_1 : w3.cell? ⟨w1.heap.size, 1, none⟩ = some (.int .i64 n) := (hb3.cell (p := ⟨w1.heap.size, 1, none⟩) (by first | omega | (simp; done) | (simp; omega))).trans (by simp [go_sem, *])
  have hc3_2 : w3.cell? ⟨w1.heap.size + 1, 0, none⟩ = some (.int .i64 0) := (hb3.cell (p := ⟨w1.heap.size + 1, 0, none⟩) (by first | omega | (simp; done) | (simp; omega))).trans (by simp [go_sem, *])
  have hc3_3 : w3.cell? ⟨w1.heap.size + 1, 1, none⟩ = some (.int .i64 1) := (hb3.cell (p := ⟨w1.heap.size + 1, 1, none⟩) (by first | omega | (simp; done) | (simp; omega))).trans (by simp [go_sem, *])
  have hc3_4 : w3.cell? ⟨w2.heap.size, 0, none⟩ = some (.int .i64 u1) := (hb3.cell (p := ⟨w2.heap.size, 0, none⟩) (by first | omega | (simp; done) | (simp; omega))).trans (by simp [go_sem, *])
  have hc3_5 : w3.cell? ⟨w2.heap.size, 1, none⟩ = some (.int .i64 u2) := (hb3.cell (p := ⟨w2.heap.size, 1, none⟩) (by first | omega | (simp; done) | (simp; omega))).trans (by simp [go_sem, *])
  clear hc2_0 hc2_1 hc2_2 hc2_3
  clear hb3
  go_wp2_with fail
  refine (K3.out _).mono ?_
  rintro e w4 ⟨rfl, hb4⟩
  have hB4 : Below w.heap.size w w4 := Below.after (by first | (go_grown; done) | (refine below_drewN ?_ _; go_grown; done)) hb4
  have hs4 : w.heap.size ≤ w4.heap.size := hB4.size
  have hz4_0 : w1.heap.size < w4.heap.size := by have := hb4.size; (try simp at this); omega
  have hz4_1 : w1.heap.size + 1 < w4.heap.size := by have := hb4.size; (try simp at this); omega
  have hz4_2 : w2.heap.size < w4.heap.size := by have := hb4.size; (try simp at this); omega
  have hz4_3 : w3.heap.size < w4.heap.size := by have := hb4.size; (try simp at this); omega
  have hc4_0 : w4.cell? ⟨w1.heap.size, 0, none⟩ = some (.int .i64 0) := (hb4.cell (p := ⟨w1.heap.size, 0, none⟩) (by first | omega | (simp; done) | (simp; omega))).trans (by simp [go_sem, *])
  have hc4_1 : w4.cell? ⟨w1.heap.size, 1, none⟩ = some (.int .i64 n) := (hb4.cell (p := ⟨w1.heap.size, 1, none⟩) (by first | omega | (simp; done) | (simp; omega))).trans (by simp [go_sem, *])
  have hc4_2 : w4.cell? ⟨w1.heap.size + 1, 0, none⟩ = some (.int .i64 0) := (hb4.cell (p := ⟨w1.heap.size + 1, 0, none⟩) (by first | omega | (simp; done) | (simp; omega))).trans (by simp [go_sem, *])
  have hc4_3 : w4.cell? ⟨w1.heap.size + 1, 1, none⟩ = some (.int .i64 1) := (hb4.cell (p := ⟨w1.heap.size + 1, 1, none⟩) (by first | omega | (simp; done) | (simp; omega))).trans (by simp [go_sem, *])
  have hc4_4 : w4.cell? ⟨w2.heap.size, 0, none⟩ = some (.int .i64 u1) := (hb4.cell (p := ⟨w2.heap.size, 0, none⟩) (by first | omega | (simp; done) | (simp; omega))).trans (by simp [go_sem, *])
  have hc4_5 : w4.cell? ⟨w2.heap.size, 1, none⟩ = some (.int .i64 u2) := (hb4.cell (p := ⟨w2.heap.size, 1, none⟩) (by first | omega | (simp; done) | (simp; omega))).trans (by simp [go_sem, *])
  have hc4_6 : w4.cell? ⟨w3.heap.size, 0, none⟩ = some (.int .i64 d1) := (hb4.cell (p := ⟨w3.heap.size, 0, none⟩) (by first | omega | (simp; done) | (simp; omega))).trans (by simp [go_sem, *])
  have hc4_7 : w4.cell? ⟨w3.heap.size, 1, none⟩ = some (.int .i64 d2) := (hb4.cell (p := ⟨w3.heap.size, 1, none⟩) (by first | omega | (simp; done) | (simp; omega))).trans (by simp [go_sem, *])
  clear hc3_0 hc3_1 hc3_2 hc3_3 hc3_4 hc3_5
  clear hb4
  go_wp2_with fail
  go_ret
  refine ⟨ret_bool (by first | rfl | (simp; omega) | (simp; done)), ?_⟩
  go_grown

set_option maxRecDepth 100000 in
set_option maxHeartbeats 4000000 in
theorem ends_true_max (n u1 u2 d1 d2 : Int) (w : World) (h0 : -1048576 ≤ n) (h1 : n ≤ 1048576) (h2 : ¬ n < 1048576) (h3 : -1048576 < n)
    (E1 : addV 0 n 0 1 = (u1, u2, false)) (E2 : subV 0 n 0 1 = (d1, d2, true)) (E3 : mayB 0 n = true) :
    Calls Try.prog 3 #[.int .i64 n, .bool true] w fun e w' => e = .returned (.bool true) ∧ Below w.heap.size w w' := by
  have K1 : Hid (∀ w, Calls Try.prog 11 #[.agg #[.int .i64 0, .int .i64 n], .agg #[.int .i64 0, .int .i64 1]] w fun e w' => e = .returned (.tuple #[.agg #[.int .i64 u1, .int .i64 u2], .bool false]) ∧ Below w.heap.size w w') := by
    apply Lib.hid; intro w; have h := add_any 0 n 0 1 w; rw [E1] at h; exact h
  have K2 : Hid (∀ w, Calls Try.prog 12 #[.agg #[.int .i64 0, .int .i64 n], .agg #[.int .i64 0, .int .i64 1]] w fun e w' => e = .returned (.tuple #[.agg #[.int .i64 d1, .int .i64 d2], .bool true]) ∧ Below w.heap.size w w') := by
    apply Lib.hid; intro w; have h := sub_any 0 n 0 1 w; rw [E2] at h; exact h
  have K3 : Hid (∀ w, Calls Try.prog 13 #[.agg #[.int .i64 0, .int .i64 n]] w fun e w' => e = .returned (.bool true) ∧ Below w.heap.size w w') := by
    apply Lib.hid; intro w; have h := may_any 0 n w; rw [E3] at h; exact h
  clear E1 E2 E3
  go_enter Try.func3, Try.ntmps3
  go_wp2_with fail
  refine (awake02_any _).mono ?_
  rintro e w1 ⟨rfl, hb1⟩
  have hB1 : Below w.heap.size w w1 := Below.after (by first | (go_grown; done) | (refine below_drewN ?_ _; go_grown; done)) hb1
  have hs1 : w.heap.size ≤ w1.heap.size := hB1.size

  clear hb1
  go_wp2_with fail
  refine (K1.out _).mono ?_
  rintro e w2 ⟨rfl, hb2⟩
  have hB2 : Below w.heap.size w w2 := Below.after (by first | (go_grown; done) | (refine below_drewN ?_ _; go_grown; done)) hb2
  have hs2 : w.heap.size ≤ w2.heap.size := hB2.size
  have hz2_0 : w1.heap.size < w2.heap.size := by have := hb2.size; (try simp at this); omega
  have hz2_1 : w1.heap.size + 1 < w2.heap.size := by have := hb2.size; (try simp at this); omega
  have hc2_0 : w2.cell? ⟨w1.heap.size, 0, none⟩ = some (.int .i64 0) := (hb2.cell (p := ⟨w1.heap.size, 0, none⟩) (by first | omega | (simp; done) | (simp; omega))).trans (by simp [go_sem, *])
  have hc2_1 : w2.cell? ⟨w1.heap.size, 1, none⟩ = some (.int .i64 n) := (hb2.cell (p := ⟨w1.heap.size, 1, none⟩) (by first | omega | (simp; done) | (simp; omega))).trans (by simp [go_sem, *])
  have hc2_2 : w2.cell? ⟨w1.heap.size + 1, 0, none⟩ = some (.int .i64 0) := (hb2.cell (p := ⟨w1.heap.size + 1, 0, none⟩) (by first | omega | (simp; done) | (simp; omega))).trans (by simp [go_sem, *])
  have hc2_3 : w2.cell? ⟨w1.heap.size + 1, 1, none⟩ = some (.int .i64 1) := (hb2.cell (p := ⟨w1.heap.size + 1, 1, none⟩) (by first | omega | (simp; done) | (simp; omega))).trans (by simp [go_sem, *])
  clear hb2
  go_wp2_with fail
  refine (K2.out _).mono ?_
  rintro e w3 ⟨rfl, hb3⟩
  have hB3 : Below w.heap.size w w3 := Below.after (by first | (go_grown; done) | (refine below_drewN ?_ _; go_grown; done)) hb3
  have hs3 : w.heap.size ≤ w3.heap.size := hB3.size
  have hz3_0 : w1.heap.size < w3.heap.size := by have := hb3.size; (try simp at this); omega
  have hz3_1 : w1.heap.size + 1 < w3.heap.size := by have := hb3.size; (try simp at this); omega
  have hz3_2 : w2.heap.size < w3.heap.size := by have := hb3.size; (try simp at this); omega
  have hc3_0 : w3.cell? ⟨w1.heap.size, 0, none⟩ = some (.int .i64 0) := (hb3.cell (p := ⟨w1.heap.size, 0, none⟩) (by first | omega | (simp; done) | (simp; omega))).trans (by simp [go_sem, *])
  have hc3_1 : w3.cell? ⟨w1.heap.size, 1, none⟩ = some (.int .i64 n) := (hb3.cell (p := ⟨w1.heap.size, 1, none⟩) (by first | omega | (simp; done) | (simp; omega))).trans (by simp [go_sem, *])
  have hc3_2 : w3.cell? ⟨w1.heap.size + 1, 0, none⟩ = some (.int .i64 0) := (hb3.cell (p := ⟨w1.heap.size + 1, 0, none⟩) (by first | omega | (simp; done) | (simp; omega))).trans (by simp [go_sem, *])
  have hc3_3 : w3.cell? ⟨w1.heap.size + 1, 1, none⟩ = some (.int .i64 1) := (hb3.cell (p := ⟨w1.heap.size + 1, 1, none⟩) (by first | omega | (simp; done) | (simp; omega))).trans (by simp [go_sem, *])
  have hc3_4 : w3.cell? ⟨w2.heap.size, 0, none⟩ = some (.int .i64 u1) := (hb3.cell (p := ⟨w2.heap.size, 0, none⟩) (by first | omega | (simp; done) | (simp; omega))).trans (by simp [go_sem, *])
  have hc3_5 : w3.cell? ⟨w2.heap.size, 1, none⟩ = some (.int .i64 u2) := (hb3.cell (p := ⟨w2.heap.size, 1, none⟩) (by first | omega | (simp; done) | (simp; omega))).trans (by simp [go_sem, *])
  clear hc2_0 hc2_1 hc2_2 hc2_3
  clear hb3
  go_wp2_with fail
  refine (K3.out _).mono ?_
  rintro e w4 ⟨rfl, hb4⟩
  have hB4 : Below w.heap.size w w4 := Below.after (by first | (go_grown; done) | (refine below_drewN ?_ _; go_grown; done)) hb4
  have hs4 : w.heap.size ≤ w4.heap.size := hB4.size
  have hz4_0 : w1.heap.size < w4.heap.size := by have := hb4.size; (try simp at this); omega
  have hz4_1 : w1.heap.size + 1 < w4.heap.size := by have := hb4.size; (try simp at this); omega
  have hz4_2 : w2.heap.size < w4.heap.size := by have := hb4.size; (try simp at this); omega
  have hz4_3 : w3.heap.size < w4.heap.size := by have := hb4.size; (try simp at this); omega
  have hc4_0 : w4.cell? ⟨w1.heap.size, 0, none⟩ = some (.int .i64 0) := (hb4.cell (p := ⟨w1.heap.size, 0, none⟩) (by first | omega | (simp; done) | (simp; omega))).trans (by simp [go_sem, *])
  have hc4_1 : w4.cell? ⟨w1.heap.size, 1, none⟩ = some (.int .i64 n) := (hb4.cell (p := ⟨w1.heap.size, 1, none⟩) (by first | omega | (simp; done) | (simp; omega))).trans (by simp [go_sem, *])
  have hc4_2 : w4.cell? ⟨w1.heap.size + 1, 0, none⟩ = some (.int .i64 0) := (hb4.cell (p := ⟨w1.heap.size + 1, 0, none⟩) (by first | omega | (simp; done) | (simp; omega))).trans (by simp [go_sem, *])
  have hc4_3 : w4.cell? ⟨w1.heap.size + 1, 1, none⟩ = some (.int .i64 1) := (hb4.cell (p := ⟨w1.heap.size + 1, 1, none⟩) (by first | omega | (simp; done) | (simp; omega))).trans (by simp [go_sem, *])
  have hc4_4 : w4.cell? ⟨w2.heap.size, 0, none⟩ = some (.int .i64 u1) := (hb4.cell (p := ⟨w2.heap.size, 0, none⟩) (by first | omega | (simp; done) | (simp; omega))).trans (by simp [go_sem, *])
  have hc4_5 : w4.cell? ⟨w2.heap.size, 1, none⟩ = some (.int .i64 u2) := (hb4.cell (p := ⟨w2.heap.size, 1, none⟩) (by first | omega | (simp; done) | (simp; omega))).trans (by simp [go_sem, *])
  have hc4_6 : w4.cell? ⟨w3.heap.size, 0, none⟩ = some (.int .i64 d1) := (hb4.cell (p := ⟨w3.heap.size, 0, none⟩) (by first | omega | (simp; done) | (simp; omega))).trans (by simp [go_sem, *])
  have hc4_7 : w4.cell? ⟨w3.heap.size, 1, none⟩ = some (.int .i64 d2) := (hb4.cell (p := ⟨w3.heap.size, 1, none⟩) (by first | omega | (simp; done) | (simp; omega))).trans (by simp [go_sem, *])
  clear hc3_0 hc3_1 hc3_2 hc3_3 hc3_4 hc3_5
  clear hb4
  go_wp2_with fail
  go_ret
  refine ⟨ret_bool (by first | rfl | (simp; omega) | (simp; done)), ?_⟩
  go_grown

set_option maxRecDepth 100000 in
set_option maxHeartbeats 4000000 in
theorem ends_true_mid (n u1 u2 d1 d2 : Int) (w : World) (h0 : -1048576 ≤ n) (h1 : n ≤ 1048576) (h2 : n < 1048576) (h3 : -1048576 < n)
    (E1 : addV 0 n 0 1 = (u1, u2, true)) (E2 : subV 0 n 0 1 = (d1, d2, true)) (E3 : mayB 0 n = true) :
    Calls Try.prog 3 #[.int .i64 n, .bool true] w fun e w' => e = .returned (.bool true) ∧ Below w.heap.size w w' := by
  have K1 : Hid (∀ w, Calls Try.prog 11 #[.agg #[.int .i64 0, .int .i64 n], .agg #[.int .i64 0, .int .i64 1]] w fun e w' => e = .returned (.tuple #[.agg #[.int .i64 u1, .int .i64 u2], .bool true]) ∧ Below w.heap.size w w') := by
    apply Lib.hid; intro w; have h := add_any 0 n 0 1 w; rw [E1] at h; exact h
  have K2 : Hid (∀ w, Calls Try.prog 12 #[.agg #[.int .i64 0, .int .i64 n], .agg #[.int .i64 0, .int .i64 1]] w fun e w' => e = .returned (.tuple #[.agg #[.int .i64 d1, .int .i64 d2], .bool true]) ∧ Below w.heap.size w w') := by
    apply Lib.hid; intro w; have h := sub_any 0 n 0 1 w; rw [E2] at h; exact h
  have K3 : Hid (∀ w, Calls Try.prog 13 #[.agg #[.int .i64 0, .int .i64 n]] w fun e w' => e = .returned (.bool true) ∧ Below w.heap.size w w') := by
    apply Lib.hid; intro w; have h := may_any 0 n w; rw [E3] at h; exact h
  clear E1 E2 E3
  go_enter Try.func3, Try.ntmps3
  go_wp2_with fail
  refine (awake02_any _).mono ?_
  rintro e w1 ⟨rfl, hb1⟩
  have hB1 : Below w.heap.size w w1 := Below.after (by first | (go_grown; done) | (refine below_drewN ?_ _; go_grown; done)) hb1
  have hs1 : w.heap.size ≤ w1.heap.size := hB1.size

  clear hb1
  go_wp2_with fail
  refine (K1.out _).mono ?_
  rintro e w2 ⟨rfl, hb2⟩
  have hB2 : Below w.heap.size w w2 := Below.after (by first | (go_grown; done) | (refine below_drewN ?_ _; go_grown; done)) hb2
  have hs2 : w.heap.size ≤ w2.heap.size := hB2.size
  have hz2_0 : w1.heap.size < w2.heap.size := by have := hb2.size; (try simp at this); omega
  have hz2_1 : w1.heap.size + 1 < w2.heap.size := by have := hb2.size; (try simp at this); omega
  have hc2_0 : w2.cell? ⟨w1.heap.size, 0, none⟩ = some (.int .i64 0) := (hb2.cell (p := ⟨w1.heap.size, 0, none⟩) (by first | omega | (simp; done) | (simp; omega))).trans (by simp [go_sem, *])
  have hc2_1 : w2.cell? ⟨w1.heap.size, 1, none⟩ = some (.int .i64 n) := (hb2.cell (p := ⟨w1.heap.size, 1, none⟩) (by first | omega | (simp; done) | (simp; omega))).trans (by simp [go_sem, *])
  have hc2_2 : w2.cell? ⟨w1.heap.size + 1, 0, none⟩ = some (.int .i64 0) := (hb2.cell (p := ⟨w1.heap.size + 1, 0, none⟩) (by first | omega | (simp; done) | (simp; omega))).trans (by simp [go_sem, *])
  have hc2_3 : w2.cell? ⟨w1.heap.size + 1, 1, none⟩ = some (.int .i64 1) := (hb2.cell (p := ⟨w1.heap.size + 1, 1, none⟩) (by first | omega | (simp; done) | (simp; omega))).trans (by simp [go_sem, *])
  clear hb2
  go_wp2_with fail
  refine (K2.out _).mono ?_
  rintro e w3 ⟨rfl, hb3⟩
  have hB3 : Below w.heap.size w w3 := Below.after (by first | (go_grown; done) | (refine below_drewN ?_ _; go_grown; done)) hb3
  have hs3 : w.heap.size ≤ w3.heap.size := hB3.size
  have hz3_0 : w1.heap.size < w3.heap.size := by have := hb3.size; (try simp at this); omega
  have hz3_1 : w1.heap.size + 1 < w3.heap.size := by have := hb3.size; (try simp at this); omega
  have hz3_2 : w2.heap.size < w3.heap.size := by have := hb3.size; (try simp at this); omega
  have hc3_0 : w3.cell? ⟨w1.heap.size, 0, none⟩ = some (.int .i64 0) := (hb3.cell (p := ⟨w1.heap.size, 0, none⟩) (by first | omega | (simp; done) | (simp; omega))).trans (by simp [go_sem, *])
  have hc3_1 : w3.cell? ⟨w1.heap.size, 1, none⟩ = some (.int .i64 n) := (hb3.cell (p := ⟨w1.heap.size, 1, none⟩) (by first | omega | (simp; done) | (simp; omega))).trans (by simp [go_sem, *])
  have hc3_2 : w3.cell? ⟨w1.heap.size + 1, 0, none⟩ = some (.int .i64 0) := (hb3.cell (p := ⟨w1.heap.size + 1, 0, none⟩) (by first | omega | (simp; done) | (simp; omega))).trans (by simp [go_sem, *])
  have hc3_3 : w3.cell? ⟨w1.heap.size + 1, 1, none⟩ = some (.int .i64 1) := (hb3.cell (p := ⟨w1.heap.size + 1, 1, none⟩) (by first | omega | (simp; done) | (simp; omega))).trans (by simp [go_sem, *])
  have hc3_4 : w3.cell? ⟨w2.heap.size, 0, none⟩ = some (.int .i64 u1) := (hb3.cell (p := ⟨w2.heap.size, 0, none⟩) (by first | omega | (simp; done) | (simp; omega))).trans (by simp [go_sem, *])
  have hc3_5 : w3.cell? ⟨w2.heap.size, 1, none⟩ = some (.int .i64 u2) := (hb3.cell (p := ⟨w2.heap.size, 1, none⟩) (by first | omega | (simp; done) | (simp; omega))).trans (by simp [go_sem, *])
  clear hc2_0 hc2_1 hc2_2 hc2_3
  clear hb3
  go_wp2_with fail
  refine (K3.out _).mono ?_
  rintro e w4 ⟨rfl, hb4⟩
  have hB4 : Below w.heap.size w w4 := Below.after (by first | (go_grown; done) | (refine below_drewN ?_ _; go_grown; done)) hb4
  have hs4 : w.heap.size ≤ w4.heap.size := hB4.size
  have hz4_0 : w1.heap.size < w4.heap.size := by have := hb4.size; (try simp at this); omega
  have hz4_1 : w1.heap.size + 1 < w4.heap.size := by have := hb4.size; (try simp at this); omega
  have hz4_2 : w2.heap.size < w4.heap.size := by have := hb4.size; (try simp at this); omega
  have hz4_3 : w3.heap.size < w4.heap.size := by have := hb4.size; (try simp at this); omega
  have hc4_0 : w4.cell? ⟨w1.heap.size, 0, none⟩ = some (.int .i64 0) := (hb4.cell (p := ⟨w1.heap.size, 0, none⟩) (by first | omega | (simp; done) | (simp; omega))).trans (by simp [go_sem, *])
  have hc4_1 : w4.cell? ⟨w1.heap.size, 1, none⟩ = some (.int .i64 n) := (hb4.cell (p := ⟨w1.heap.size, 1, none⟩) (by first | omega | (simp; done) | (simp; omega))).trans (by simp [go_sem, *])
  have hc4_2 : w4.cell? ⟨w1.heap.size + 1, 0, none⟩ = some (.int .i64 0) := (hb4.cell (p := ⟨w1.heap.size + 1, 0, none⟩) (by first | omega | (simp; done) | (simp; omega))).trans (by simp [go_sem, *])
  have hc4_3 : w4.cell? ⟨w1.heap.size + 1, 1, none⟩ = some (.int .i64 1) := (hb4.cell (p := ⟨w1.heap.size + 1, 1, none⟩) (by first | omega | (simp; done) | (simp; omega))).trans (by simp [go_sem, *])
  have hc4_4 : w4.cell? ⟨w2.heap.size, 0, none⟩ = some (.int .i64 u1) := (hb4.cell (p := ⟨w2.heap.size, 0, none⟩) (by first | omega | (simp; done) | (simp; omega))).trans (by simp [go_sem, *])
  have hc4_5 : w4.cell? ⟨w2.heap.size, 1, none⟩ = some (.int .i64 u2) := (hb4.cell (p := ⟨w2.heap.size, 1, none⟩) (by first | omega | (simp; done) | (simp; omega))).trans (by simp [go_sem, *])
  have hc4_6 : w4.cell? ⟨w3.heap.size, 0, none⟩ = some (.int .i64 d1) := (hb4.cell (p := ⟨w3.heap.size, 0, none⟩) (by first | omega | (simp; done) | (simp; omega))).trans (by simp [go_sem, *])
  have hc4_7 : w4.cell? ⟨w3.heap.size, 1, none⟩ = some (.int .i64 d2) := (hb4.cell (p := ⟨w3.heap.size, 1, none⟩) (by first | omega | (simp; done) | (simp; omega))).trans (by simp [go_sem, *])
  clear hc3_0 hc3_1 hc3_2 hc3_3 hc3_4 hc3_5
  clear hb4
  go_wp2_with fail
  go_ret
  refine ⟨ret_bool (by first | rfl | (simp; omega) | (simp; done)), ?_⟩
  go_grown

theorem ends_add (n : Int) : addV n 0 1 0 = (if mayB n 0 = true ∧ mayB (n + 1) 0 = true then (n + 1, 0, true) else (0, 0, false)) ∧ addV 0 n 0 1 = (if mayB n 0 = true ∧ mayB (n + 1) 0 = true then (0, n + 1, true) else (0, 0, false)) ∧
    subV n 0 1 0 = (if mayB n 0 = true ∧ mayB (n - 1) 0 = true then (n - 1, 0, true) else (0, 0, false)) ∧ subV 0 n 0 1 = (if mayB n 0 = true ∧ mayB (n - 1) 0 = true then (0, n - 1, true) else (0, 0, false)) ∧ mayB 0 n = mayB n 0 := by
  have e : ∀ k : Int, mayB 0 k = mayB k 0 := by
    intro k; unfold mayB; rw [decide_eq_decide]; omega
  have m1 : mayB 1 0 = true := by decide
  have m2 : mayB 0 1 = true := by decide
  unfold addV subV bothV
  simp [e, m1, m2]

theorem gaussEnds_walk (n : Int) (second : Bool) (w : World) : Calls Try.prog 3 #[.int .i64 n, .bool second] w fun e w' => e = .returned (.bool true) ∧ Below w.heap.size w w' := by
  obtain ⟨e1, e2, e3, e4, e5⟩ := ends_add n
  have hm : ∀ k : Int, mayB k 0 = decide (-1048576 ≤ k ∧ k ≤ 1048576) := by
    intro k; unfold mayB; rw [decide_eq_decide]; omega
  rw [hm, hm] at e1 e2 e3 e4
  rw [hm] at e5
  have hmn := hm n
  by_cases c_lo : n < -1048576
  · cases second
    · exact ends_false_lo n _ _ _ _ w (by omega) (by omega) (by rw [e1]; rw [if_neg (by simp only [decide_eq_true_eq]; omega)]) (by rw [e3]; rw [if_neg (by simp only [decide_eq_true_eq]; omega)]) (by rw [hmn]; simp only [decide_eq_true_eq, decide_eq_false_iff_not]; omega)
    · exact ends_true_lo n _ _ _ _ w (by omega) (by omega) (by rw [e2]; rw [if_neg (by simp only [decide_eq_true_eq]; omega)]) (by rw [e4]; rw [if_neg (by simp only [decide_eq_true_eq]; omega)]) (by rw [e5]; simp only [decide_eq_true_eq, decide_eq_false_iff_not]; omega)
  by_cases c_hi : 1048576 < n
  · cases second
    · exact ends_false_hi n _ _ _ _ w (by omega) (by omega) (by omega) (by rw [e1]; rw [if_neg (by simp only [decide_eq_true_eq]; omega)]) (by rw [e3]; rw [if_neg (by simp only [decide_eq_true_eq]; omega)]) (by rw [hmn]; simp only [decide_eq_true_eq, decide_eq_false_iff_not]; omega)
    · exact ends_true_hi n _ _ _ _ w (by omega) (by omega) (by omega) (by rw [e2]; rw [if_neg (by simp only [decide_eq_true_eq]; omega)]) (by rw [e4]; rw [if_neg (by simp only [decide_eq_true_eq]; omega)]) (by rw [e5]; simp only [decide_eq_true_eq, decide_eq_false_iff_not]; omega)
  by_cases c_min : n = -1048576
  · cases second
    · exact ends_false_min n _ _ _ _ w (by omega) (by omega) (by omega) (by omega) (by rw [e1]; rw [if_pos (by simp only [decide_eq_true_eq]; omega)]) (by rw [e3]; rw [if_neg (by simp only [decide_eq_true_eq]; omega)]) (by rw [hmn]; simp only [decide_eq_true_eq, decide_eq_false_iff_not]; omega)
    · exact ends_true_min n _ _ _ _ w (by omega) (by omega) (by omega) (by omega) (by rw [e2]; rw [if_pos (by simp only [decide_eq_true_eq]; omega)]) (by rw [e4]; rw [if_neg (by simp only [decide_eq_true_eq]; omega)]) (by rw [e5]; simp only [decide_eq_true_eq, decide_eq_false_iff_not]; omega)
  by_cases c_max : n = 1048576
  · cases second
    · exact ends_false_max n _ _ _ _ w (by omega) (by omega) (by omega) (by omega) (by rw [e1]; rw [if_neg (by simp only [decide_eq_true_eq]; omega)]) (by rw [e3]; rw [if_pos (by simp only [decide_eq_true_eq]; omega)]) (by rw [hmn]; simp only [decide_eq_true_eq, decide_eq_false_iff_not]; omega)
    · exact ends_true_max n _ _ _ _ w (by omega) (by omega) (by omega) (by omega) (by rw [e2]; rw [if_neg (by simp only [decide_eq_true_eq]; omega)]) (by rw [e4]; rw [if_pos (by simp only [decide_eq_true_eq]; omega)]) (by rw [e5]; simp only [decide_eq_true_eq, decide_eq_false_iff_not]; omega)
  · cases second
    · exact ends_false_mid n _ _ _ _ w (by omega) (by omega) (by omega) (by omega) (by rw [e1]; rw [if_pos (by simp only [decide_eq_true_eq]; omega)]) (by rw [e3]; rw [if_pos (by simp only [decide_eq_true_eq]; omega)]) (by rw [hmn]; simp only [decide_eq_true_eq, decide_eq_false_iff_not]; omega)
    · exact ends_true_mid n _ _ _ _ w (by omega) (by omega) (by omega) (by omega) (by rw [e2]; rw [if_pos (by simp only [decide_eq_true_eq]; omega)]) (by rw [e4]; rw [if_pos (by simp only [decide_eq_true_eq]; omega)]) (by rw [e5]; simp only [decide_eq_true_eq, decide_eq_false_iff_not]; omega)

end Go.Proofs.Ytkjmnmcekhnkmab
