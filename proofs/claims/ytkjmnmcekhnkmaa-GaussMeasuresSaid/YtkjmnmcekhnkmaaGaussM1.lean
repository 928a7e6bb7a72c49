/- The measure of a product is the product of the measures, and what belongs to it: the law's walk, case by case; for all parts. -/
import Derived.Test.YtkjmnmcekhnkmaaGaussW
namespace Go.Proofs.Ytkjmnmcekhnkmaa
open Go.RowKit
set_option linter.unusedSimpArgs false
set_option linter.unusedVariables false

set_option maxRecDepth 100000 in
set_option maxHeartbeats 8000000 in
theorem gm_tttttt (a b c d x1 x2 a1 a2 b1 b2 o1 o2 y1 y2 z1 z2 t1 t2 : Int) (w : World)
    (E1 : mulV a b c d = (x1, x2, true)) (E2 : conjV a b = (a1, a2, true)) (E3 : conjV c d = (b1, b2, true)) (E4 : mulV a b a1 a2 = (o1, o2, true))
    (E5 : mulV a1 a2 b1 b2 = (y1, y2, true)) (E6 : conjV x1 x2 = (z1, z2, true)) (E7 : conjV a1 a2 = (t1, t2, true)) (E8 : mayB a b = true)
    (N : decide (measV a b < 0) = false)
    (M : (measV x1 x2 != IntKind.i64.wrap (measV a b * measV c d)) = false)
    (O1 : (o1 == measV a b) = true) (O2 : (o2 == 0) = true)
    (T1 : (t1 == a) = true) (T2 : (t2 == b) = true)
    (Y1 : (y1 == z1) = true) (Y2 : (y2 == z2) = true)
    : Calls Try.prog 7 #[.agg #[.int .i64 a, .int .i64 b], .agg #[.int .i64 c, .int .i64 d]] w fun e w' => e = .returned (.bool true) ∧ Below w.heap.size w w' := by
  have C1 : Hid (∀ w, Calls Try.prog 22 #[.agg #[.int .i64 a, .int .i64 b], .agg #[.int .i64 c, .int .i64 d]] w fun e w' => e = .returned (.tuple #[.agg #[.int .i64 x1, .int .i64 x2], .bool true]) ∧ Below w.heap.size w w') := by
    apply Lib.hid; intro w; have h := prod_any a b c d w; rw [E1] at h; exact h
  have C2 : Hid (∀ w, Calls Try.prog 24 #[.agg #[.int .i64 a, .int .i64 b]] w fun e w' => e = .returned (.tuple #[.agg #[.int .i64 a1, .int .i64 a2], .bool true]) ∧ Below w.heap.size w w') := by
    apply Lib.hid; intro w; have h := conj_any a b w; rw [E2] at h; exact h
  have C3 : Hid (∀ w, Calls Try.prog 24 #[.agg #[.int .i64 c, .int .i64 d]] w fun e w' => e = .returned (.tuple #[.agg #[.int .i64 b1, .int .i64 b2], .bool true]) ∧ Below w.heap.size w w') := by
    apply Lib.hid; intro w; have h := conj_any c d w; rw [E3] at h; exact h
  have C4 : Hid (∀ w, Calls Try.prog 22 #[.agg #[.int .i64 a, .int .i64 b], .agg #[.int .i64 a1, .int .i64 a2]] w fun e w' => e = .returned (.tuple #[.agg #[.int .i64 o1, .int .i64 o2], .bool true]) ∧ Below w.heap.size w w') := by
    apply Lib.hid; intro w; have h := prod_any a b a1 a2 w; rw [E4] at h; exact h
  have C5 : Hid (∀ w, Calls Try.prog 22 #[.agg #[.int .i64 a1, .int .i64 a2], .agg #[.int .i64 b1, .int .i64 b2]] w fun e w' => e = .returned (.tuple #[.agg #[.int .i64 y1, .int .i64 y2], .bool true]) ∧ Below w.heap.size w w') := by
    apply Lib.hid; intro w; have h := prod_any a1 a2 b1 b2 w; rw [E5] at h; exact h
  have C6 : Hid (∀ w, Calls Try.prog 24 #[.agg #[.int .i64 x1, .int .i64 x2]] w fun e w' => e = .returned (.tuple #[.agg #[.int .i64 z1, .int .i64 z2], .bool true]) ∧ Below w.heap.size w w') := by
    apply Lib.hid; intro w; have h := conj_any x1 x2 w; rw [E6] at h; exact h
  have C7 : Hid (∀ w, Calls Try.prog 24 #[.agg #[.int .i64 a1, .int .i64 a2]] w fun e w' => e = .returned (.tuple #[.agg #[.int .i64 t1, .int .i64 t2], .bool true]) ∧ Below w.heap.size w w') := by
    apply Lib.hid; intro w; have h := conj_any a1 a2 w; rw [E7] at h; exact h
  have C8 : Hid (∀ w, Calls Try.prog 25 #[.agg #[.int .i64 a, .int .i64 b]] w fun e w' => e = .returned (.bool true) ∧ Below w.heap.size w w') := by
    apply Lib.hid; intro w; have h := may_any a b w; rw [E8] at h; exact h
  clear E1 E2 E3 E4 E5 E6 E7 E8
  have hpe := pair_eq
  go_enter Try.func7, Try.ntmps7
  go_wp2_with fail
  refine (awake02_any _).mono ?_
  rintro e w1 ⟨rfl, hb1⟩
  have hB1 : Below w.heap.size w w1 := Below.after (by first | (go_grown; done) | (refine below_drewN ?_ _; go_grown; done)) hb1
  have hs1 : w.heap.size ≤ w1.heap.size := hB1.size
  have hz1_0 : w.heap.size < w1.heap.size := by have := hb1.size; (try simp at this); omega
  have hz1_1 : w.heap.size + 1 < w1.heap.size := by have := hb1.size; (try simp at this); omega
  have hc1_0 : w1.cell? ⟨w.heap.size, 0, none⟩ = some (.int .i64 a) := (hb1.cell (p := ⟨w.heap.size, 0, none⟩) (by first | omega | (simp; done) | (simp; omega))).trans (by simp [go_sem, *])
  have hc1_1 : w1.cell? ⟨w.heap.size, 1, none⟩ = some (.int .i64 b) := (hb1.cell (p := ⟨w.heap.size, 1, none⟩) (by first | omega | (simp; done) | (simp; omega))).trans (by simp [go_sem, *])
  have hc1_2 : w1.cell? ⟨w.heap.size + 1, 0, none⟩ = some (.int .i64 c) := (hb1.cell (p := ⟨w.heap.size + 1, 0, none⟩) (by first | omega | (simp; done) | (simp; omega))).trans (by simp [go_sem, *])
  have hc1_3 : w1.cell? ⟨w.heap.size + 1, 1, none⟩ = some (.int .i64 d) := (hb1.cell (p := ⟨w.heap.size + 1, 1, none⟩) (by first | omega | (simp; done) | (simp; omega))).trans (by simp [go_sem, *])
  clear hb1
  go_wp2_with fail
  refine (C1.out _).mono ?_
  rintro e w2 ⟨rfl, hb2⟩
  have hB2 : Below w.heap.size w w2 := Below.after (by first | (go_grown; done) | (refine below_drewN ?_ _; go_grown; done)) hb2
  have hs2 : w.heap.size ≤ w2.heap.size := hB2.size
  have hz2_0 : w.heap.size < w2.heap.size := by have := hb2.size; (try simp at this); omega
  have hz2_1 : w.heap.size + 1 < w2.heap.size := by have := hb2.size; (try simp at this); omega
  have hc2_0 : w2.cell? ⟨w.heap.size, 0, none⟩ = some (.int .i64 a) := (hb2.cell (p := ⟨w.heap.size, 0, none⟩) (by first | omega | (simp; done) | (simp; omega))).trans (by simp [go_sem, *])
  have hc2_1 : w2.cell? ⟨w.heap.size, 1, none⟩ = some (.int .i64 b) := (hb2.cell (p := ⟨w.heap.size, 1, none⟩) (by first | omega | (simp; done) | (simp; omega))).trans (by simp [go_sem, *])
  have hc2_2 : w2.cell? ⟨w.heap.size + 1, 0, none⟩ = some (.int .i64 c) := (hb2.cell (p := ⟨w.heap.size + 1, 0, none⟩) (by first | omega | (simp; done) | (simp; omega))).trans (by simp [go_sem, *])
  have hc2_3 : w2.cell? ⟨w.heap.size + 1, 1, none⟩ = some (.int .i64 d) := (hb2.cell (p := ⟨w.heap.size + 1, 1, none⟩) (by first | omega | (simp; done) | (simp; omega))).trans (by simp [go_sem, *])
  clear hc1_0 hc1_1 hc1_2 hc1_3
  clear hb2
  go_wp2_with fail
  obtain ⟨w3, hw3⟩ : ∃ w3, w3 = w2.alloc (.cells #[.int .i64 x1, .int .i64 x2] 52) := ⟨_, rfl⟩
  rw [← hw3]
  have hb3 : Below w2.heap.size w2 w3 := by rw [hw3]; exact (Below.refl _ _).alloc (Nat.le_refl _) _
  have hB3 : Below w.heap.size w w3 := Below.after hB2 hb3
  have hs3 : w.heap.size ≤ w3.heap.size := hB3.size
  have hn3 : w2.heap.size < w3.heap.size := by rw [hw3]; simp
  have hz3_0 : w.heap.size < w3.heap.size := by omega
  have hz3_1 : w.heap.size + 1 < w3.heap.size := by omega
  have hz3_2 : w2.heap.size < w3.heap.size := by omega
  have hc3_0 : w3.cell? ⟨w.heap.size, 0, none⟩ = some (.int .i64 a) := by rw [hw3]; simp [go_sem, *]
  have hc3_1 : w3.cell? ⟨w.heap.size, 1, none⟩ = some (.int .i64 b) := by rw [hw3]; simp [go_sem, *]
  have hc3_2 : w3.cell? ⟨w.heap.size + 1, 0, none⟩ = some (.int .i64 c) := by rw [hw3]; simp [go_sem, *]
  have hc3_3 : w3.cell? ⟨w.heap.size + 1, 1, none⟩ = some (.int .i64 d) := by rw [hw3]; simp [go_sem, *]
  have hc3_4 : w3.cell? ⟨w2.heap.size, 0, none⟩ = some (.int .i64 x1) := by rw [hw3]; simp [go_sem, *]
  have hc3_5 : w3.cell? ⟨w2.heap.size, 1, none⟩ = some (.int .i64 x2) := by rw [hw3]; simp [go_sem, *]
  clear hc2_0 hc2_1 hc2_2 hc2_3 hw3 hb3
  have key3 : ∀ W, Below w3.heap.size w3 W → W.cell? ⟨w.heap.size, 0, none⟩ = some (.int .i64 a) ∧ W.cell? ⟨w.heap.size, 1, none⟩ = some (.int .i64 b) ∧ W.cell? ⟨w.heap.size + 1, 0, none⟩ = some (.int .i64 c) ∧ W.cell? ⟨w.heap.size + 1, 1, none⟩ = some (.int .i64 d) ∧ W.cell? ⟨w2.heap.size, 0, none⟩ = some (.int .i64 x1) ∧ W.cell? ⟨w2.heap.size, 1, none⟩ = some (.int .i64 x2) ∧ Below w3.heap.size w3 W :=
    fun W hS => ⟨(hS.cell (by first | omega | (simp; done) | (simp; omega))).trans (by assumption), (hS.cell (by first | omega | (simp; done) | (simp; omega))).trans (by assumption), (hS.cell (by first | omega | (simp; done) | (simp; omega))).trans (by assumption), (hS.cell (by first | omega | (simp; done) | (simp; omega))).trans (by assumption), (hS.cell (by first | omega | (simp; done) | (simp; omega))).trans (by assumption), (hS.cell (by first | omega | (simp; done) | (simp; omega))).trans (by assumption), hS⟩
  have KEY3 := Lib.hid key3
  clear key3
  go_region_held3 (fun w' => w'.cell? ⟨w.heap.size, 0, none⟩ = some (.int .i64 a) ∧ w'.cell? ⟨w.heap.size, 1, none⟩ = some (.int .i64 b) ∧ w'.cell? ⟨w.heap.size + 1, 0, none⟩ = some (.int .i64 c) ∧ w'.cell? ⟨w.heap.size + 1, 1, none⟩ = some (.int .i64 d) ∧ w'.cell? ⟨w2.heap.size, 0, none⟩ = some (.int .i64 x1) ∧ w'.cell? ⟨w2.heap.size, 1, none⟩ = some (.int .i64 x2) ∧ Below w3.heap.size w3 w')
    ((refine KEY3.out _ ?_; first
        | (with_reducible exact Below.drew (Below.refl _ _))
        | (with_reducible refine Below.after ?_ hb; go_split_ands; with_reducible assumption)
        | fail))
    (first
      | (go_at_call 23; refine (measure_any _ _ _).mono ?_; rintro e w4 ⟨rfl, hb⟩)
      | fail)
  have hb4 : Below w3.heap.size w3 w4 := by go_split_ands; with_reducible assumption
  have hB4 : Below w.heap.size w w4 := Below.after hB3 hb4
  have hs4 : w.heap.size ≤ w4.heap.size := hB4.size
  have hz4_0 : w.heap.size < w4.heap.size := by have := hb4.size; (try simp at this); omega
  have hz4_1 : w.heap.size + 1 < w4.heap.size := by have := hb4.size; (try simp at this); omega
  have hz4_2 : w2.heap.size < w4.heap.size := by have := hb4.size; (try simp at this); omega
  have hc4_0 : w4.cell? ⟨w.heap.size, 0, none⟩ = some (.int .i64 a) := (hb4.cell (p := ⟨w.heap.size, 0, none⟩) (by first | omega | (simp; done) | (simp; omega))).trans (by simp [go_sem, *])
  have hc4_1 : w4.cell? ⟨w.heap.size, 1, none⟩ = some (.int .i64 b) := (hb4.cell (p := ⟨w.heap.size, 1, none⟩) (by first | omega | (simp; done) | (simp; omega))).trans (by simp [go_sem, *])
  have hc4_2 : w4.cell? ⟨w.heap.size + 1, 0, none⟩ = some (.int .i64 c) := (hb4.cell (p := ⟨w.heap.size + 1, 0, none⟩) (by first | omega | (simp; done) | (simp; omega))).trans (by simp [go_sem, *])
  have hc4_3 : w4.cell? ⟨w.heap.size + 1, 1, none⟩ = some (.int .i64 d) := (hb4.cell (p := ⟨w.heap.size + 1, 1, none⟩) (by first | omega | (simp; done) | (simp; omega))).trans (by simp [go_sem, *])
  have hc4_4 : w4.cell? ⟨w2.heap.size, 0, none⟩ = some (.int .i64 x1) := (hb4.cell (p := ⟨w2.heap.size, 0, none⟩) (by first | omega | (simp; done) | (simp; omega))).trans (by simp [go_sem, *])
  have hc4_5 : w4.cell? ⟨w2.heap.size, 1, none⟩ = some (.int .i64 x2) := (hb4.cell (p := ⟨w2.heap.size, 1, none⟩) (by first | omega | (simp; done) | (simp; omega))).trans (by simp [go_sem, *])
  clear hc3_0 hc3_1 hc3_2 hc3_3 hc3_4 hc3_5
  clear hb4
  go_wp2_with fail
  refine (C2.out _).mono ?_
  rintro e w5 ⟨rfl, hb5⟩
  have hB5 : Below w.heap.size w w5 := Below.after (by first | (go_grown; done) | (refine below_drewN ?_ _; go_grown; done)) hb5
  have hs5 : w.heap.size ≤ w5.heap.size := hB5.size
  have hz5_0 : w.heap.size < w5.heap.size := by have := hb5.size; (try simp at this); omega
  have hz5_1 : w.heap.size + 1 < w5.heap.size := by have := hb5.size; (try simp at this); omega
  have hz5_2 : w2.heap.size < w5.heap.size := by have := hb5.size; (try simp at this); omega
  have hc5_0 : w5.cell? ⟨w.heap.size, 0, none⟩ = some (.int .i64 a) := (hb5.cell (p := ⟨w.heap.size, 0, none⟩) (by first | omega | (simp; done) | (simp; omega))).trans (by simp [go_sem, *])
  have hc5_1 : w5.cell? ⟨w.heap.size, 1, none⟩ = some (.int .i64 b) := (hb5.cell (p := ⟨w.heap.size, 1, none⟩) (by first | omega | (simp; done) | (simp; omega))).trans (by simp [go_sem, *])
  have hc5_2 : w5.cell? ⟨w.heap.size + 1, 0, none⟩ = some (.int .i64 c) := (hb5.cell (p := ⟨w.heap.size + 1, 0, none⟩) (by first | omega | (simp; done) | (simp; omega))).trans (by simp [go_sem, *])
  have hc5_3 : w5.cell? ⟨w.heap.size + 1, 1, none⟩ = some (.int .i64 d) := (hb5.cell (p := ⟨w.heap.size + 1, 1, none⟩) (by first | omega | (simp; done) | (simp; omega))).trans (by simp [go_sem, *])
  have hc5_4 : w5.cell? ⟨w2.heap.size, 0, none⟩ = some (.int .i64 x1) := (hb5.cell (p := ⟨w2.heap.size, 0, none⟩) (by first | omega | (simp; done) | (simp; omega))).trans (by simp [go_sem, *])
  have hc5_5 : w5.cell? ⟨w2.heap.size, 1, none⟩ = some (.int .i64 x2) := (hb5.cell (p := ⟨w2.heap.size, 1, none⟩) (by first | omega | (simp; done) | (simp; omega))).trans (by simp [go_sem, *])
  clear hc4_0 hc4_1 hc4_2 hc4_3 hc4_4 hc4_5
  clear hb5
  go_wp2_with fail
  refine (C3.out _).mono ?_
  rintro e w6 ⟨rfl, hb6⟩
  have hB6 : Below w.heap.size w w6 := Below.after (by first | (go_grown; done) | (refine below_drewN ?_ _; go_grown; done)) hb6
  have hs6 : w.heap.size ≤ w6.heap.size := hB6.size
  have hz6_0 : w.heap.size < w6.heap.size := by have := hb6.size; (try simp at this); omega
  have hz6_1 : w.heap.size + 1 < w6.heap.size := by have := hb6.size; (try simp at this); omega
  have hz6_2 : w2.heap.size < w6.heap.size := by have := hb6.size; (try simp at this); omega
  have hz6_3 : w5.heap.size < w6.heap.size := by have := hb6.size; (try simp at this); omega
  have hc6_0 : w6.cell? ⟨w.heap.size, 0, none⟩ = some (.int .i64 a) := (hb6.cell (p := ⟨w.heap.size, 0, none⟩) (by first | omega | (simp; done) | (simp; omega))).trans (by simp [go_sem, *])
  have hc6_1 : w6.cell? ⟨w.heap.size, 1, none⟩ = some (.int .i64 b) := (hb6.cell (p := ⟨w.heap.size, 1, none⟩) (by first | omega | (simp; done) | (simp; omega))).trans (by simp [go_sem, *])
  have hc6_2 : w6.cell? ⟨w.heap.size + 1, 0, none⟩ = some (.int .i64 c) := (hb6.cell (p := ⟨w.heap.size + 1, 0, none⟩) (by first | omega | (simp; done) | (simp; omega))).trans (by simp [go_sem, *])
  have hc6_3 : w6.cell? ⟨w.heap.size + 1, 1, none⟩ = some (.int .i64 d) := (hb6.cell (p := ⟨w.heap.size + 1, 1, none⟩) (by first | omega | (simp; done) | (simp; omega))).trans (by simp [go_sem, *])
  have hc6_4 : w6.cell? ⟨w2.heap.size, 0, none⟩ = some (.int .i64 x1) := (hb6.cell (p := ⟨w2.heap.size, 0, none⟩) (by first | omega | (simp; done) | (simp; omega))).trans (by simp [go_sem, *])
  have hc6_5 : w6.cell? ⟨w2.heap.size, 1, none⟩ = some (.int .i64 x2) := (hb6.cell (p := ⟨w2.heap.size, 1, none⟩) (by first | omega | (simp; done) | (simp; omega))).trans (by simp [go_sem, *])
  have hc6_6 : w6.cell? ⟨w5.heap.size, 0, none⟩ = some (.int .i64 a1) := (hb6.cell (p := ⟨w5.heap.size, 0, none⟩) (by first | omega | (simp; done) | (simp; omega))).trans (by simp [go_sem, *])
  have hc6_7 : w6.cell? ⟨w5.heap.size, 1, none⟩ = some (.int .i64 a2) := (hb6.cell (p := ⟨w5.heap.size, 1, none⟩) (by first | omega | (simp; done) | (simp; omega))).trans (by simp [go_sem, *])
  clear hc5_0 hc5_1 hc5_2 hc5_3 hc5_4 hc5_5
  clear hb6
  go_wp2_with fail
  refine (C8.out _).mono ?_
  rintro e w7 ⟨rfl, hb7⟩
  have hB7 : Below w.heap.size w w7 := Below.after (by first | (go_grown; done) | (refine below_drewN ?_ _; go_grown; done)) hb7
  have hs7 : w.heap.size ≤ w7.heap.size := hB7.size
  have hz7_0 : w.heap.size < w7.heap.size := by have := hb7.size; (try simp at this); omega
  have hz7_1 : w.heap.size + 1 < w7.heap.size := by have := hb7.size; (try simp at this); omega
  have hz7_2 : w2.heap.size < w7.heap.size := by have := hb7.size; (try simp at this); omega
  have hz7_3 : w5.heap.size < w7.heap.size := by have := hb7.size; (try simp at this); omega
  have hz7_4 : w6.heap.size < w7.heap.size := by have := hb7.size; (try simp at this); omega
  have hc7_0 : w7.cell? ⟨w.heap.size, 0, none⟩ = some (.int .i64 a) := (hb7.cell (p := ⟨w.heap.size, 0, none⟩) (by first | omega | (simp; done) | (simp; omega))).trans (by simp [go_sem, *])
  have hc7_1 : w7.cell? ⟨w.heap.size, 1, none⟩ = some (.int .i64 b) := (hb7.cell (p := ⟨w.heap.size, 1, none⟩) (by first | omega | (simp; done) | (simp; omega))).trans (by simp [go_sem, *])
  have hc7_2 : w7.cell? ⟨w.heap.size + 1, 0, none⟩ = some (.int .i64 c) := (hb7.cell (p := ⟨w.heap.size + 1, 0, none⟩) (by first | omega | (simp; done) | (simp; omega))).trans (by simp [go_sem, *])
  have hc7_3 : w7.cell? ⟨w.heap.size + 1, 1, none⟩ = some (.int .i64 d) := (hb7.cell (p := ⟨w.heap.size + 1, 1, none⟩) (by first | omega | (simp; done) | (simp; omega))).trans (by simp [go_sem, *])
  have hc7_4 : w7.cell? ⟨w2.heap.size, 0, none⟩ = some (.int .i64 x1) := (hb7.cell (p := ⟨w2.heap.size, 0, none⟩) (by first | omega | (simp; done) | (simp; omega))).trans (by simp [go_sem, *])
  have hc7_5 : w7.cell? ⟨w2.heap.size, 1, none⟩ = some (.int .i64 x2) := (hb7.cell (p := ⟨w2.heap.size, 1, none⟩) (by first | omega | (simp; done) | (simp; omega))).trans (by simp [go_sem, *])
  have hc7_6 : w7.cell? ⟨w5.heap.size, 0, none⟩ = some (.int .i64 a1) := (hb7.cell (p := ⟨w5.heap.size, 0, none⟩) (by first | omega | (simp; done) | (simp; omega))).trans (by simp [go_sem, *])
  have hc7_7 : w7.cell? ⟨w5.heap.size, 1, none⟩ = some (.int .i64 a2) := (hb7.cell (p := ⟨w5.heap.size, 1, none⟩) (by first | omega | (simp; done) | (simp; omega))).trans (by simp [go_sem, *])
  have hc7_8 : w7.cell? ⟨w6.heap.size, 0, none⟩ = some (.int .i64 b1) := (hb7.cell (p := ⟨w6.heap.size, 0, none⟩) (by first | omega | (simp; done) | (simp; omega))).trans (by simp [go_sem, *])
  have hc7_9 : w7.cell? ⟨w6.heap.size, 1, none⟩ = some (.int .i64 b2) := (hb7.cell (p := ⟨w6.heap.size, 1, none⟩) (by first | omega | (simp; done) | (simp; omega))).trans (by simp [go_sem, *])
  clear hc6_0 hc6_1 hc6_2 hc6_3 hc6_4 hc6_5 hc6_6 hc6_7
  clear hb7
  go_wp2_with fail
  refine (measure_any _ _ _).mono ?_
  rintro e w8 ⟨rfl, hb8⟩
  have hB8 : Below w.heap.size w w8 := Below.after (by first | (go_grown; done) | (refine below_drewN ?_ _; go_grown; done)) hb8
  have hs8 : w.heap.size ≤ w8.heap.size := hB8.size
  have hz8_0 : w.heap.size < w8.heap.size := by have := hb8.size; (try simp at this); omega
  have hz8_1 : w.heap.size + 1 < w8.heap.size := by have := hb8.size; (try simp at this); omega
  have hz8_2 : w2.heap.size < w8.heap.size := by have := hb8.size; (try simp at this); omega
  have hz8_3 : w5.heap.size < w8.heap.size := by have := hb8.size; (try simp at this); omega
  have hz8_4 : w6.heap.size < w8.heap.size := by have := hb8.size; (try simp at this); omega
  have hc8_0 : w8.cell? ⟨w.heap.size, 0, none⟩ = some (.int .i64 a) := (hb8.cell (p := ⟨w.heap.size, 0, none⟩) (by first | omega | (simp; done) | (simp; omega))).trans (by simp [go_sem, *])
  have hc8_1 : w8.cell? ⟨w.heap.size, 1, none⟩ = some (.int .i64 b) := (hb8.cell (p := ⟨w.heap.size, 1, none⟩) (by first | omega | (simp; done) | (simp; omega))).trans (by simp [go_sem, *])
  have hc8_2 : w8.cell? ⟨w.heap.size + 1, 0, none⟩ = some (.int .i64 c) := (hb8.cell (p := ⟨w.heap.size + 1, 0, none⟩) (by first | omega | (simp; done) | (simp; omega))).trans (by simp [go_sem, *])
  have hc8_3 : w8.cell? ⟨w.heap.size + 1, 1, none⟩ = some (.int .i64 d) := (hb8.cell (p := ⟨w.heap.size + 1, 1, none⟩) (by first | omega | (simp; done) | (simp; omega))).trans (by simp [go_sem, *])
  have hc8_4 : w8.cell? ⟨w2.heap.size, 0, none⟩ = some (.int .i64 x1) := (hb8.cell (p := ⟨w2.heap.size, 0, none⟩) (by first | omega | (simp; done) | (simp; omega))).trans (by simp [go_sem, *])
  have hc8_5 : w8.cell? ⟨w2.heap.size, 1, none⟩ = some (.int .i64 x2) := (hb8.cell (p := ⟨w2.heap.size, 1, none⟩) (by first | omega | (simp; done) | (simp; omega))).trans (by simp [go_sem, *])
  have hc8_6 : w8.cell? ⟨w5.heap.size, 0, none⟩ = some (.int .i64 a1) := (hb8.cell (p := ⟨w5.heap.size, 0, none⟩) (by first | omega | (simp; done) | (simp; omega))).trans (by simp [go_sem, *])
  have hc8_7 : w8.cell? ⟨w5.heap.size, 1, none⟩ = some (.int .i64 a2) := (hb8.cell (p := ⟨w5.heap.size, 1, none⟩) (by first | omega | (simp; done) | (simp; omega))).trans (by simp [go_sem, *])
  have hc8_8 : w8.cell? ⟨w6.heap.size, 0, none⟩ = some (.int .i64 b1) := (hb8.cell (p := ⟨w6.heap.size, 0, none⟩) (by first | omega | (simp; done) | (simp; omega))).trans (by simp [go_sem, *])
  have hc8_9 : w8.cell? ⟨w6.heap.size, 1, none⟩ = some (.int .i64 b2) := (hb8.cell (p := ⟨w6.heap.size, 1, none⟩) (by first | omega | (simp; done) | (simp; omega))).trans (by simp [go_sem, *])
  clear hc7_0 hc7_1 hc7_2 hc7_3 hc7_4 hc7_5 hc7_6 hc7_7 hc7_8 hc7_9
  clear hb8
  go_wp2_with fail
  refine (C4.out _).mono ?_
  rintro e w9 ⟨rfl, hb9⟩
  have hB9 : Below w.heap.size w w9 := Below.after (by first | (go_grown; done) | (refine below_drewN ?_ _; go_grown; done)) hb9
  have hs9 : w.heap.size ≤ w9.heap.size := hB9.size
  have hz9_0 : w.heap.size < w9.heap.size := by have := hb9.size; (try simp at this); omega
  have hz9_1 : w.heap.size + 1 < w9.heap.size := by have := hb9.size; (try simp at this); omega
  have hz9_2 : w2.heap.size < w9.heap.size := by have := hb9.size; (try simp at this); omega
  have hz9_3 : w5.heap.size < w9.heap.size := by have := hb9.size; (try simp at this); omega
  have hz9_4 : w6.heap.size < w9.heap.size := by have := hb9.size; (try simp at this); omega
  have hc9_0 : w9.cell? ⟨w.heap.size, 0, none⟩ = some (.int .i64 a) := (hb9.cell (p := ⟨w.heap.size, 0, none⟩) (by first | omega | (simp; done) | (simp; omega))).trans (by simp [go_sem, *])
  have hc9_1 : w9.cell? ⟨w.heap.size, 1, none⟩ = some (.int .i64 b) := (hb9.cell (p := ⟨w.heap.size, 1, none⟩) (by first | omega | (simp; done) | (simp; omega))).trans (by simp [go_sem, *])
  have hc9_2 : w9.cell? ⟨w.heap.size + 1, 0, none⟩ = some (.int .i64 c) := (hb9.cell (p := ⟨w.heap.size + 1, 0, none⟩) (by first | omega | (simp; done) | (simp; omega))).trans (by simp [go_sem, *])
  have hc9_3 : w9.cell? ⟨w.heap.size + 1, 1, none⟩ = some (.int .i64 d) := (hb9.cell (p := ⟨w.heap.size + 1, 1, none⟩) (by first | omega | (simp; done) | (simp; omega))).trans (by simp [go_sem, *])
  have hc9_4 : w9.cell? ⟨w2.heap.size, 0, none⟩ = some (.int .i64 x1) := (hb9.cell (p := ⟨w2.heap.size, 0, none⟩) (by first | omega | (simp; done) | (simp; omega))).trans (by simp [go_sem, *])
  have hc9_5 : w9.cell? ⟨w2.heap.size, 1, none⟩ = some (.int .i64 x2) := (hb9.cell (p := ⟨w2.heap.size, 1, none⟩) (by first | omega | (simp; done) | (simp; omega))).trans (by simp [go_sem, *])
  have hc9_6 : w9.cell? ⟨w5.heap.size, 0, none⟩ = some (.int .i64 a1) := (hb9.cell (p := ⟨w5.heap.size, 0, none⟩) (by first | omega | (simp; done) | (simp; omega))).trans (by simp [go_sem, *])
  have hc9_7 : w9.cell? ⟨w5.heap.size, 1, none⟩ = some (.int .i64 a2) := (hb9.cell (p := ⟨w5.heap.size, 1, none⟩) (by first | omega | (simp; done) | (simp; omega))).trans (by simp [go_sem, *])
  have hc9_8 : w9.cell? ⟨w6.heap.size, 0, none⟩ = some (.int .i64 b1) := (hb9.cell (p := ⟨w6.heap.size, 0, none⟩) (by first | omega | (simp; done) | (simp; omega))).trans (by simp [go_sem, *])
  have hc9_9 : w9.cell? ⟨w6.heap.size, 1, none⟩ = some (.int .i64 b2) := (hb9.cell (p := ⟨w6.heap.size, 1, none⟩) (by first | omega | (simp; done) | (simp; omega))).trans (by simp [go_sem, *])
  clear hc8_0 hc8_1 hc8_2 hc8_3 hc8_4 hc8_5 hc8_6 hc8_7 hc8_8 hc8_9
  clear hb9
  go_wp2_with fail
  obtain ⟨w10, hw10⟩ : ∃ w10, w10 = w9.alloc (.cells #[.int .i64 o1, .int .i64 o2] 52) := ⟨_, rfl⟩
  rw [← hw10]
  have hb10 : Below w9.heap.size w9 w10 := by rw [hw10]; exact (Below.refl _ _).alloc (Nat.le_refl _) _
  have hB10 : Below w.heap.size w w10 := Below.after hB9 hb10
  have hs10 : w.heap.size ≤ w10.heap.size := hB10.size
  have hn10 : w9.heap.size < w10.heap.size := by rw [hw10]; simp
  have hz10_0 : w.heap.size < w10.heap.size := by omega
  have hz10_1 : w.heap.size + 1 < w10.heap.size := by omega
  have hz10_2 : w2.heap.size < w10.heap.size := by omega
  have hz10_3 : w5.heap.size < w10.heap.size := by omega
  have hz10_4 : w6.heap.size < w10.heap.size := by omega
  have hz10_5 : w9.heap.size < w10.heap.size := by omega
  have hc10_0 : w10.cell? ⟨w.heap.size, 0, none⟩ = some (.int .i64 a) := by rw [hw10]; simp [go_sem, *]
  have hc10_1 : w10.cell? ⟨w.heap.size, 1, none⟩ = some (.int .i64 b) := by rw [hw10]; simp [go_sem, *]
  have hc10_2 : w10.cell? ⟨w.heap.size + 1, 0, none⟩ = some (.int .i64 c) := by rw [hw10]; simp [go_sem, *]
  have hc10_3 : w10.cell? ⟨w.heap.size + 1, 1, none⟩ = some (.int .i64 d) := by rw [hw10]; simp [go_sem, *]
  have hc10_4 : w10.cell? ⟨w2.heap.size, 0, none⟩ = some (.int .i64 x1) := by rw [hw10]; simp [go_sem, *]
  have hc10_5 : w10.cell? ⟨w2.heap.size, 1, none⟩ = some (.int .i64 x2) := by rw [hw10]; simp [go_sem, *]
  have hc10_6 : w10.cell? ⟨w5.heap.size, 0, none⟩ = some (.int .i64 a1) := by rw [hw10]; simp [go_sem, *]
  have hc10_7 : w10.cell? ⟨w5.heap.size, 1, none⟩ = some (.int .i64 a2) := by rw [hw10]; simp [go_sem, *]
  have hc10_8 : w10.cell? ⟨w6.heap.size, 0, none⟩ = some (.int .i64 b1) := by rw [hw10]; simp [go_sem, *]
  have hc10_9 : w10.cell? ⟨w6.heap.size, 1, none⟩ = some (.int .i64 b2) := by rw [hw10]; simp [go_sem, *]
  have hc10_10 : w10.cell? ⟨w9.heap.size, 0, none⟩ = some (.int .i64 o1) := by rw [hw10]; simp [go_sem, *]
  have hc10_11 : w10.cell? ⟨w9.heap.size, 1, none⟩ = some (.int .i64 o2) := by rw [hw10]; simp [go_sem, *]
  clear hc9_0 hc9_1 hc9_2 hc9_3 hc9_4 hc9_5 hc9_6 hc9_7 hc9_8 hc9_9 hw10 hb10
  have key10 : ∀ W, Below w10.heap.size w10 W → W.cell? ⟨w.heap.size, 0, none⟩ = some (.int .i64 a) ∧ W.cell? ⟨w.heap.size, 1, none⟩ = some (.int .i64 b) ∧ W.cell? ⟨w.heap.size + 1, 0, none⟩ = some (.int .i64 c) ∧ W.cell? ⟨w.heap.size + 1, 1, none⟩ = some (.int .i64 d) ∧ W.cell? ⟨w2.heap.size, 0, none⟩ = some (.int .i64 x1) ∧ W.cell? ⟨w2.heap.size, 1, none⟩ = some (.int .i64 x2) ∧ W.cell? ⟨w5.heap.size, 0, none⟩ = some (.int .i64 a1) ∧ W.cell? ⟨w5.heap.size, 1, none⟩ = some (.int .i64 a2) ∧ W.cell? ⟨w6.heap.size, 0, none⟩ = some (.int .i64 b1) ∧ W.cell? ⟨w6.heap.size, 1, none⟩ = some (.int .i64 b2) ∧ W.cell? ⟨w9.heap.size, 0, none⟩ = some (.int .i64 o1) ∧ W.cell? ⟨w9.heap.size, 1, none⟩ = some (.int .i64 o2) ∧ Below w10.heap.size w10 W :=
    fun W hS => ⟨(hS.cell (by first | omega | (simp; done) | (simp; omega))).trans (by assumption), (hS.cell (by first | omega | (simp; done) | (simp; omega))).trans (by assumption), (hS.cell (by first | omega | (simp; done) | (simp; omega))).trans (by assumption), (hS.cell (by first | omega | (simp; done) | (simp; omega))).trans (by assumption), (hS.cell (by first | omega | (simp; done) | (simp; omega))).trans (by assumption), (hS.cell (by first | omega | (simp; done) | (simp; omega))).trans (by assumption), (hS.cell (by first | omega | (simp; done) | (simp; omega))).trans (by assumption), (hS.cell (by first | omega | (simp; done) | (simp; omega))).trans (by assumption), (hS.cell (by first | omega | (simp; done) | (simp; omega))).trans (by assumption), (hS.cell (by first | omega | (simp; done) | (simp; omega))).trans (by assumption), (hS.cell (by first | omega | (simp; done) | (simp; omega))).trans (by assumption), (hS.cell (by first | omega | (simp; done) | (simp; omega))).trans (by assumption), hS⟩
  have KEY10 := Lib.hid key10
  clear key10
  go_region_held3 (fun w' => w'.cell? ⟨w.heap.size, 0, none⟩ = some (.int .i64 a) ∧ w'.cell? ⟨w.heap.size, 1, none⟩ = some (.int .i64 b) ∧ w'.cell? ⟨w.heap.size + 1, 0, none⟩ = some (.int .i64 c) ∧ w'.cell? ⟨w.heap.size + 1, 1, none⟩ = some (.int .i64 d) ∧ w'.cell? ⟨w2.heap.size, 0, none⟩ = some (.int .i64 x1) ∧ w'.cell? ⟨w2.heap.size, 1, none⟩ = some (.int .i64 x2) ∧ w'.cell? ⟨w5.heap.size, 0, none⟩ = some (.int .i64 a1) ∧ w'.cell? ⟨w5.heap.size, 1, none⟩ = some (.int .i64 a2) ∧ w'.cell? ⟨w6.heap.size, 0, none⟩ = some (.int .i64 b1) ∧ w'.cell? ⟨w6.heap.size, 1, none⟩ = some (.int .i64 b2) ∧ w'.cell? ⟨w9.heap.size, 0, none⟩ = some (.int .i64 o1) ∧ w'.cell? ⟨w9.heap.size, 1, none⟩ = some (.int .i64 o2) ∧ Below w10.heap.size w10 w')
    ((refine KEY10.out _ ?_; first
        | (with_reducible exact Below.drew (Below.refl _ _))
        | (with_reducible refine Below.after ?_ hb; go_split_ands; with_reducible assumption)
        | fail))
    (first
      | (go_at_call 23; refine (measure_any _ _ _).mono ?_; rintro e w11 ⟨rfl, hb⟩)
      | fail)
  have hb11 : Below w10.heap.size w10 w11 := by go_split_ands; with_reducible assumption
  have hB11 : Below w.heap.size w w11 := Below.after hB10 hb11
  have hs11 : w.heap.size ≤ w11.heap.size := hB11.size
  have hz11_0 : w.heap.size < w11.heap.size := by have := hb11.size; (try simp at this); omega
  have hz11_1 : w.heap.size + 1 < w11.heap.size := by have := hb11.size; (try simp at this); omega
  have hz11_2 : w2.heap.size < w11.heap.size := by have := hb11.size; (try simp at this); omega
  have hz11_3 : w5.heap.size < w11.heap.size := by have := hb11.size; (try simp at this); omega
  have hz11_4 : w6.heap.size < w11.heap.size := by have := hb11.size; (try simp at this); omega
  have hz11_5 : w9.heap.size < w11.heap.size := by have := hb11.size; (try simp at this); omega
  have hc11_0 : w11.cell? ⟨w.heap.size, 0, none⟩ = some (.int .i64 a) := (hb11.cell (p := ⟨w.heap.size, 0, none⟩) (by first | omega | (simp; done) | (simp; omega))).trans (by simp [go_sem, *])
  have hc11_1 : w11.cell? ⟨w.heap.size, 1, none⟩ = some (.int .i64 b) := (hb11.cell (p := ⟨w.heap.size, 1, none⟩) (by first | omega | (simp; done) | (simp; omega))).trans (by simp [go_sem, *])
  have hc11_2 : w11.cell? ⟨w.heap.size + 1, 0, none⟩ = some (.int .i64 c) := (hb11.cell (p := ⟨w.heap.size + 1, 0, none⟩) (by first | omega | (simp; done) | (simp; omega))).trans (by simp [go_sem, *])
  have hc11_3 : w11.cell? ⟨w.heap.size + 1, 1, none⟩ = some (.int .i64 d) := (hb11.cell (p := ⟨w.heap.size + 1, 1, none⟩) (by first | omega | (simp; done) | (simp; omega))).trans (by simp [go_sem, *])
  have hc11_4 : w11.cell? ⟨w2.heap.size, 0, none⟩ = some (.int .i64 x1) := (hb11.cell (p := ⟨w2.heap.size, 0, none⟩) (by first | omega | (simp; done) | (simp; omega))).trans (by simp [go_sem, *])
  have hc11_5 : w11.cell? ⟨w2.heap.size, 1, none⟩ = some (.int .i64 x2) := (hb11.cell (p := ⟨w2.heap.size, 1, none⟩) (by first | omega | (simp; done) | (simp; omega))).trans (by simp [go_sem, *])
  have hc11_6 : w11.cell? ⟨w5.heap.size, 0, none⟩ = some (.int .i64 a1) := (hb11.cell (p := ⟨w5.heap.size, 0, none⟩) (by first | omega | (simp; done) | (simp; omega))).trans (by simp [go_sem, *])
  have hc11_7 : w11.cell? ⟨w5.heap.size, 1, none⟩ = some (.int .i64 a2) := (hb11.cell (p := ⟨w5.heap.size, 1, none⟩) (by first | omega | (simp; done) | (simp; omega))).trans (by simp [go_sem, *])
  have hc11_8 : w11.cell? ⟨w6.heap.size, 0, none⟩ = some (.int .i64 b1) := (hb11.cell (p := ⟨w6.heap.size, 0, none⟩) (by first | omega | (simp; done) | (simp; omega))).trans (by simp [go_sem, *])
  have hc11_9 : w11.cell? ⟨w6.heap.size, 1, none⟩ = some (.int .i64 b2) := (hb11.cell (p := ⟨w6.heap.size, 1, none⟩) (by first | omega | (simp; done) | (simp; omega))).trans (by simp [go_sem, *])
  have hc11_10 : w11.cell? ⟨w9.heap.size, 0, none⟩ = some (.int .i64 o1) := (hb11.cell (p := ⟨w9.heap.size, 0, none⟩) (by first | omega | (simp; done) | (simp; omega))).trans (by simp [go_sem, *])
  have hc11_11 : w11.cell? ⟨w9.heap.size, 1, none⟩ = some (.int .i64 o2) := (hb11.cell (p := ⟨w9.heap.size, 1, none⟩) (by first | omega | (simp; done) | (simp; omega))).trans (by simp [go_sem, *])
  clear hc10_0 hc10_1 hc10_2 hc10_3 hc10_4 hc10_5 hc10_6 hc10_7 hc10_8 hc10_9 hc10_10 hc10_11
  clear hb11
  go_wp2_with fail
  refine (C5.out _).mono ?_
  rintro e w12 ⟨rfl, hb12⟩
  have hB12 : Below w.heap.size w w12 := Below.after (by first | (go_grown; done) | (refine below_drewN ?_ _; go_grown; done)) hb12
  have hs12 : w.heap.size ≤ w12.heap.size := hB12.size
  have hz12_0 : w.heap.size < w12.heap.size := by have := hb12.size; (try simp at this); omega
  have hz12_1 : w.heap.size + 1 < w12.heap.size := by have := hb12.size; (try simp at this); omega
  have hz12_2 : w2.heap.size < w12.heap.size := by have := hb12.size; (try simp at this); omega
  have hz12_3 : w5.heap.size < w12.heap.size := by have := hb12.size; (try simp at this); omega
  have hz12_4 : w6.heap.size < w12.heap.size := by have := hb12.size; (try simp at this); omega
  have hz12_5 : w9.heap.size < w12.heap.size := by have := hb12.size; (try simp at this); omega
  have hc12_0 : w12.cell? ⟨w.heap.size, 0, none⟩ = some (.int .i64 a) := (hb12.cell (p := ⟨w.heap.size, 0, none⟩) (by first | omega | (simp; done) | (simp; omega))).trans (by simp [go_sem, *])
  have hc12_1 : w12.cell? ⟨w.heap.size, 1, none⟩ = some (.int .i64 b) := (hb12.cell (p := ⟨w.heap.size, 1, none⟩) (by first | omega | (simp; done) | (simp; omega))).trans (by simp [go_sem, *])
  have hc12_2 : w12.cell? ⟨w.heap.size + 1, 0, none⟩ = some (.int .i64 c) := (hb12.cell (p := ⟨w.heap.size + 1, 0, none⟩) (by first | omega | (simp; done) | (simp; omega))).trans (by simp [go_sem, *])
  have hc12_3 : w12.cell? ⟨w.heap.size + 1, 1, none⟩ = some (.int .i64 d) := (hb12.cell (p := ⟨w.heap.size + 1, 1, none⟩) (by first | omega | (simp; done) | (simp; omega))).trans (by simp [go_sem, *])
  have hc12_4 : w12.cell? ⟨w2.heap.size, 0, none⟩ = some (.int .i64 x1) := (hb12.cell (p := ⟨w2.heap.size, 0, none⟩) (by first | omega | (simp; done) | (simp; omega))).trans (by simp [go_sem, *])
  have hc12_5 : w12.cell? ⟨w2.heap.size, 1, none⟩ = some (.int .i64 x2) := (hb12.cell (p := ⟨w2.heap.size, 1, none⟩) (by first | omega | (simp; done) | (simp; omega))).trans (by simp [go_sem, *])
  have hc12_6 : w12.cell? ⟨w5.heap.size, 0, none⟩ = some (.int .i64 a1) := (hb12.cell (p := ⟨w5.heap.size, 0, none⟩) (by first | omega | (simp; done) | (simp; omega))).trans (by simp [go_sem, *])
  have hc12_7 : w12.cell? ⟨w5.heap.size, 1, none⟩ = some (.int .i64 a2) := (hb12.cell (p := ⟨w5.heap.size, 1, none⟩) (by first | omega | (simp; done) | (simp; omega))).trans (by simp [go_sem, *])
  have hc12_8 : w12.cell? ⟨w6.heap.size, 0, none⟩ = some (.int .i64 b1) := (hb12.cell (p := ⟨w6.heap.size, 0, none⟩) (by first | omega | (simp; done) | (simp; omega))).trans (by simp [go_sem, *])
  have hc12_9 : w12.cell? ⟨w6.heap.size, 1, none⟩ = some (.int .i64 b2) := (hb12.cell (p := ⟨w6.heap.size, 1, none⟩) (by first | omega | (simp; done) | (simp; omega))).trans (by simp [go_sem, *])
  have hc12_10 : w12.cell? ⟨w9.heap.size, 0, none⟩ = some (.int .i64 o1) := (hb12.cell (p := ⟨w9.heap.size, 0, none⟩) (by first | omega | (simp; done) | (simp; omega))).trans (by simp [go_sem, *])
  have hc12_11 : w12.cell? ⟨w9.heap.size, 1, none⟩ = some (.int .i64 o2) := (hb12.cell (p := ⟨w9.heap.size, 1, none⟩) (by first | omega | (simp; done) | (simp; omega))).trans (by simp [go_sem, *])
  clear hc11_0 hc11_1 hc11_2 hc11_3 hc11_4 hc11_5 hc11_6 hc11_7 hc11_8 hc11_9 hc11_10 hc11_11
  clear hb12
  go_wp2_with fail
  refine (C6.out _).mono ?_
  rintro e w13 ⟨rfl, hb13⟩
  have hB13 : Below w.heap.size w w13 := Below.after (by first | (go_grown; done) | (refine below_drewN ?_ _; go_grown; done)) hb13
  have hs13 : w.heap.size ≤ w13.heap.size := hB13.size
  have hz13_0 : w.heap.size < w13.heap.size := by have := hb13.size; (try simp at this); omega
  have hz13_1 : w.heap.size + 1 < w13.heap.size := by have := hb13.size; (try simp at this); omega
  have hz13_2 : w2.heap.size < w13.heap.size := by have := hb13.size; (try simp at this); omega
  have hz13_3 : w5.heap.size < w13.heap.size := by have := hb13.size; (try simp at this); omega
  have hz13_4 : w6.heap.size < w13.heap.size := by have := hb13.size; (try simp at this); omega
  have hz13_5 : w9.heap.size < w13.heap.size := by have := hb13.size; (try simp at this); omega
  have hz13_6 : w12.heap.size < w13.heap.size := by have := hb13.size; (try simp at this); omega
  have hc13_0 : w13.cell? ⟨w.heap.size, 0, none⟩ = some (.int .i64 a) := (hb13.cell (p := ⟨w.heap.size, 0, none⟩) (by first | omega | (simp; done) | (simp; omega))).trans (by simp [go_sem, *])
  have hc13_1 : w13.cell? ⟨w.heap.size, 1, none⟩ = some (.int .i64 b) := (hb13.cell (p := ⟨w.heap.size, 1, none⟩) (by first | omega | (simp; done) | (simp; omega))).trans (by simp [go_sem, *])
  have hc13_2 : w13.cell? ⟨w.heap.size + 1, 0, none⟩ = some (.int .i64 c) := (hb13.cell (p := ⟨w.heap.size + 1, 0, none⟩) (by first | omega | (simp; done) | (simp; omega))).trans (by simp [go_sem, *])
  have hc13_3 : w13.cell? ⟨w.heap.size + 1, 1, none⟩ = some (.int .i64 d) := (hb13.cell (p := ⟨w.heap.size + 1, 1, none⟩) (by first | omega | (simp; done) | (simp; omega))).trans (by simp [go_sem, *])
  have hc13_4 : w13.cell? ⟨w2.heap.size, 0, none⟩ = some (.int .i64 x1) := (hb13.cell (p := ⟨w2.heap.size, 0, none⟩) (by first | omega | (simp; done) | (simp; omega))).trans (by simp [go_sem, *])
  have hc13_5 : w13.cell? ⟨w2.heap.size, 1, none⟩ = some (.int .i64 x2) := (hb13.cell (p := ⟨w2.heap.size, 1, none⟩) (by first | omega | (simp; done) | (simp; omega))).trans (by simp [go_sem, *])
  have hc13_6 : w13.cell? ⟨w5.heap.size, 0, none⟩ = some (.int .i64 a1) := (hb13.cell (p := ⟨w5.heap.size, 0, none⟩) (by first | omega | (simp; done) | (simp; omega))).trans (by simp [go_sem, *])
  have hc13_7 : w13.cell? ⟨w5.heap.size, 1, none⟩ = some (.int .i64 a2) := (hb13.cell (p := ⟨w5.heap.size, 1, none⟩) (by first | omega | (simp; done) | (simp; omega))).trans (by simp [go_sem, *])
  have hc13_8 : w13.cell? ⟨w6.heap.size, 0, none⟩ = some (.int .i64 b1) := (hb13.cell (p := ⟨w6.heap.size, 0, none⟩) (by first | omega | (simp; done) | (simp; omega))).trans (by simp [go_sem, *])
  have hc13_9 : w13.cell? ⟨w6.heap.size, 1, none⟩ = some (.int .i64 b2) := (hb13.cell (p := ⟨w6.heap.size, 1, none⟩) (by first | omega | (simp; done) | (simp; omega))).trans (by simp [go_sem, *])
  have hc13_10 : w13.cell? ⟨w9.heap.size, 0, none⟩ = some (.int .i64 o1) := (hb13.cell (p := ⟨w9.heap.size, 0, none⟩) (by first | omega | (simp; done) | (simp; omega))).trans (by simp [go_sem, *])
  have hc13_11 : w13.cell? ⟨w9.heap.size, 1, none⟩ = some (.int .i64 o2) := (hb13.cell (p := ⟨w9.heap.size, 1, none⟩) (by first | omega | (simp; done) | (simp; omega))).trans (by simp [go_sem, *])
  have hc13_12 : w13.cell? ⟨w12.heap.size, 0, none⟩ = some (.int .i64 y1) := (hb13.cell (p := ⟨w12.heap.size, 0, none⟩) (by first | omega | (simp; done) | (simp; omega))).trans (by simp [go_sem, *])
  have hc13_13 : w13.cell? ⟨w12.heap.size, 1, none⟩ = some (.int .i64 y2) := (hb13.cell (p := ⟨w12.heap.size, 1, none⟩) (by first | omega | (simp; done) | (simp; omega))).trans (by simp [go_sem, *])
  clear hc12_0 hc12_1 hc12_2 hc12_3 hc12_4 hc12_5 hc12_6 hc12_7 hc12_8 hc12_9 hc12_10 hc12_11
  clear hb13
  go_wp2_with fail
  refine (C7.out _).mono ?_
  rintro e w14 ⟨rfl, hb14⟩
  have hB14 : Below w.heap.size w w14 := Below.after (by first | (go_grown; done) | (refine below_drewN ?_ _; go_grown; done)) hb14
  have hs14 : w.heap.size ≤ w14.heap.size := hB14.size
  have hz14_0 : w.heap.size < w14.heap.size := by have := hb14.size; (try simp at this); omega
  have hz14_1 : w.heap.size + 1 < w14.heap.size := by have := hb14.size; (try simp at this); omega
  have hz14_2 : w2.heap.size < w14.heap.size := by have := hb14.size; (try simp at this); omega
  have hz14_3 : w5.heap.size < w14.heap.size := by have := hb14.size; (try simp at this); omega
  have hz14_4 : w6.heap.size < w14.heap.size := by have := hb14.size; (try simp at this); omega
  have hz14_5 : w9.heap.size < w14.heap.size := by have := hb14.size; (try simp at this); omega
  have hz14_6 : w12.heap.size < w14.heap.size := by have := hb14.size; (try simp at this); omega
  have hz14_7 : w13.heap.size < w14.heap.size := by have := hb14.size; (try simp at this); omega
  have hc14_0 : w14.cell? ⟨w.heap.size, 0, none⟩ = some (.int .i64 a) := (hb14.cell (p := ⟨w.heap.size, 0, none⟩) (by first | omega | (simp; done) | (simp; omega))).trans (by simp [go_sem, *])
  have hc14_1 : w14.cell? ⟨w.heap.size, 1, none⟩ = some (.int .i64 b) := (hb14.cell (p := ⟨w.heap.size, 1, none⟩) (by first | omega | (simp; done) | (simp; omega))).trans (by simp [go_sem, *])
  have hc14_2 : w14.cell? ⟨w.heap.size + 1, 0, none⟩ = some (.int .i64 c) := (hb14.cell (p := ⟨w.heap.size + 1, 0, none⟩) (by first | omega | (simp; done) | (simp; omega))).trans (by simp [go_sem, *])
  have hc14_3 : w14.cell? ⟨w.heap.size + 1, 1, none⟩ = some (.int .i64 d) := (hb14.cell (p := ⟨w.heap.size + 1, 1, none⟩) (by first | omega | (simp; done) | (simp; omega))).trans (by simp [go_sem, *])
  have hc14_4 : w14.cell? ⟨w2.heap.size, 0, none⟩ = some (.int .i64 x1) := (hb14.cell (p := ⟨w2.heap.size, 0, none⟩) (by first | omega | (simp; done) | (simp; omega))).trans (by simp [go_sem, *])
  have hc14_5 : w14.cell? ⟨w2.heap.size, 1, none⟩ = some (.int .i64 x2) := (hb14.cell (p := ⟨w2.heap.size, 1, none⟩) (by first | omega | (simp; done) | (simp; omega))).trans (by simp [go_sem, *])
  have hc14_6 : w14.cell? ⟨w5.heap.size, 0, none⟩ = some (.int .i64 a1) := (hb14.cell (p := ⟨w5.heap.size, 0, none⟩) (by first | omega | (simp; done) | (simp; omega))).trans (by simp [go_sem, *])
  have hc14_7 : w14.cell? ⟨w5.heap.size, 1, none⟩ = some (.int .i64 a2) := (hb14.cell (p := ⟨w5.heap.size, 1, none⟩) (by first | omega | (simp; done) | (simp; omega))).trans (by simp [go_sem, *])
  have hc14_8 : w14.cell? ⟨w6.heap.size, 0, none⟩ = some (.int .i64 b1) := (hb14.cell (p := ⟨w6.heap.size, 0, none⟩) (by first | omega | (simp; done) | (simp; omega))).trans (by simp [go_sem, *])
  have hc14_9 : w14.cell? ⟨w6.heap.size, 1, none⟩ = some (.int .i64 b2) := (hb14.cell (p := ⟨w6.heap.size, 1, none⟩) (by first | omega | (simp; done) | (simp; omega))).trans (by simp [go_sem, *])
  have hc14_10 : w14.cell? ⟨w9.heap.size, 0, none⟩ = some (.int .i64 o1) := (hb14.cell (p := ⟨w9.heap.size, 0, none⟩) (by first | omega | (simp; done) | (simp; omega))).trans (by simp [go_sem, *])
  have hc14_11 : w14.cell? ⟨w9.heap.size, 1, none⟩ = some (.int .i64 o2) := (hb14.cell (p := ⟨w9.heap.size, 1, none⟩) (by first | omega | (simp; done) | (simp; omega))).trans (by simp [go_sem, *])
  have hc14_12 : w14.cell? ⟨w12.heap.size, 0, none⟩ = some (.int .i64 y1) := (hb14.cell (p := ⟨w12.heap.size, 0, none⟩) (by first | omega | (simp; done) | (simp; omega))).trans (by simp [go_sem, *])
  have hc14_13 : w14.cell? ⟨w12.heap.size, 1, none⟩ = some (.int .i64 y2) := (hb14.cell (p := ⟨w12.heap.size, 1, none⟩) (by first | omega | (simp; done) | (simp; omega))).trans (by simp [go_sem, *])
  have hc14_14 : w14.cell? ⟨w13.heap.size, 0, none⟩ = some (.int .i64 z1) := (hb14.cell (p := ⟨w13.heap.size, 0, none⟩) (by first | omega | (simp; done) | (simp; omega))).trans (by simp [go_sem, *])
  have hc14_15 : w14.cell? ⟨w13.heap.size, 1, none⟩ = some (.int .i64 z2) := (hb14.cell (p := ⟨w13.heap.size, 1, none⟩) (by first | omega | (simp; done) | (simp; omega))).trans (by simp [go_sem, *])
  clear hc13_0 hc13_1 hc13_2 hc13_3 hc13_4 hc13_5 hc13_6 hc13_7 hc13_8 hc13_9 hc13_10 hc13_11 hc13_12 hc13_13
  clear hb14
  go_wp2_with fail
  go_ret
  refine ⟨rfl, ?_⟩
  go_grown

set_option maxRecDepth 100000 in
set_option maxHeartbeats 8000000 in
theorem gm_tttftt (a b c d x1 x2 a1 a2 b1 b2 o1 o2 y1 y2 z1 z2 t1 t2 : Int) (w : World)
    (E1 : mulV a b c d = (x1, x2, true)) (E2 : conjV a b = (a1, a2, true)) (E3 : conjV c d = (b1, b2, true)) (E4 : mulV a b a1 a2 = (o1, o2, false))
    (E5 : mulV a1 a2 b1 b2 = (y1, y2, true)) (E6 : conjV x1 x2 = (z1, z2, true)) (E7 : conjV a1 a2 = (t1, t2, true)) (E8 : mayB a b = true)
    (N : decide (measV a b < 0) = false)
    (M : (measV x1 x2 != IntKind.i64.wrap (measV a b * measV c d)) = false)
    (T1 : (t1 == a) = true) (T2 : (t2 == b) = true)
    (Y1 : (y1 == z1) = true) (Y2 : (y2 == z2) = true)
    : Calls Try.prog 7 #[.agg #[.int .i64 a, .int .i64 b], .agg #[.int .i64 c, .int .i64 d]] w fun e w' => e = .returned (.bool true) ∧ Below w.heap.size w w' := by
  have C1 : Hid (∀ w, Calls Try.prog 22 #[.agg #[.int .i64 a, .int .i64 b], .agg #[.int .i64 c, .int .i64 d]] w fun e w' => e = .returned (.tuple #[.agg #[.int .i64 x1, .int .i64 x2], .bool true]) ∧ Below w.heap.size w w') := by
    apply Lib.hid; intro w; have h := prod_any a b c d w; rw [E1] at h; exact h
  have C2 : Hid (∀ w, Calls Try.prog 24 #[.agg #[.int .i64 a, .int .i64 b]] w fun e w' => e = .returned (.tuple #[.agg #[.int .i64 a1, .int .i64 a2], .bool true]) ∧ Below w.heap.size w w') := by
    apply Lib.hid; intro w; have h := conj_any a b w; rw [E2] at h; exact h
  have C3 : Hid (∀ w, Calls Try.prog 24 #[.agg #[.int .i64 c, .int .i64 d]] w fun e w' => e = .returned (.tuple #[.agg #[.int .i64 b1, .int .i64 b2], .bool true]) ∧ Below w.heap.size w w') := by
    apply Lib.hid; intro w; have h := conj_any c d w; rw [E3] at h; exact h
  have C4 : Hid (∀ w, Calls Try.prog 22 #[.agg #[.int .i64 a, .int .i64 b], .agg #[.int .i64 a1, .int .i64 a2]] w fun e w' => e = .returned (.tuple #[.agg #[.int .i64 o1, .int .i64 o2], .bool false]) ∧ Below w.heap.size w w') := by
    apply Lib.hid; intro w; have h := prod_any a b a1 a2 w; rw [E4] at h; exact h
  have C5 : Hid (∀ w, Calls Try.prog 22 #[.agg #[.int .i64 a1, .int .i64 a2], .agg #[.int .i64 b1, .int .i64 b2]] w fun e w' => e = .returned (.tuple #[.agg #[.int .i64 y1, .int .i64 y2], .bool true]) ∧ Below w.heap.size w w') := by
    apply Lib.hid; intro w; have h := prod_any a1 a2 b1 b2 w; rw [E5] at h; exact h
  have C6 : Hid (∀ w, Calls Try.prog 24 #[.agg #[.int .i64 x1, .int .i64 x2]] w fun e w' => e = .returned (.tuple #[.agg #[.int .i64 z1, .int .i64 z2], .bool true]) ∧ Below w.heap.size w w') := by
    apply Lib.hid; intro w; have h := conj_any x1 x2 w; rw [E6] at h; exact h
  have C7 : Hid (∀ w, Calls Try.prog 24 #[.agg #[.int .i64 a1, .int .i64 a2]] w fun e w' => e = .returned (.tuple #[.agg #[.int .i64 t1, .int .i64 t2], .bool true]) ∧ Below w.heap.size w w') := by
    apply Lib.hid; intro w; have h := conj_any a1 a2 w; rw [E7] at h; exact h
  have C8 : Hid (∀ w, Calls Try.prog 25 #[.agg #[.int .i64 a, .int .i64 b]] w fun e w' => e = .returned (.bool true) ∧ Below w.heap.size w w') := by
    apply Lib.hid; intro w; have h := may_any a b w; rw [E8] at h; exact h
  clear E1 E2 E3 E4 E5 E6 E7 E8
  have hpe := pair_eq
  go_enter Try.func7, Try.ntmps7
  go_wp2_with fail
  refine (awake02_any _).mono ?_
  rintro e w1 ⟨rfl, hb1⟩
  have hB1 : Below w.heap.size w w1 := Below.after (by first | (go_grown; done) | (refine below_drewN ?_ _; go_grown; done)) hb1
  have hs1 : w.heap.size ≤ w1.heap.size := hB1.size
  have hz1_0 : w.heap.size < w1.heap.size := by have := hb1.size; (try simp at this); omega
  have hz1_1 : w.heap.size + 1 < w1.heap.size := by have := hb1.size; (try simp at this); omega
  have hc1_0 : w1.cell? ⟨w.heap.size, 0, none⟩ = some (.int .i64 a) := (hb1.cell (p := ⟨w.heap.size, 0, none⟩) (by first | omega | (simp; done) | (simp; omega))).trans (by simp [go_sem, *])
  have hc1_1 : w1.cell? ⟨w.heap.size, 1, none⟩ = some (.int .i64 b) := (hb1.cell (p := ⟨w.heap.size, 1, none⟩) (by first | omega | (simp; done) | (simp; omega))).trans (by simp [go_sem, *])
  have hc1_2 : w1.cell? ⟨w.heap.size + 1, 0, none⟩ = some (.int .i64 c) := (hb1.cell (p := ⟨w.heap.size + 1, 0, none⟩) (by first | omega | (simp; done) | (simp; omega))).trans (by simp [go_sem, *])
  have hc1_3 : w1.cell? ⟨w.heap.size + 1, 1, none⟩ = some (.int .i64 d) := (hb1.cell (p := ⟨w.heap.size + 1, 1, none⟩) (by first | omega | (simp; done) | (simp; omega))).trans (by simp [go_sem, *])
  clear hb1
  go_wp2_with fail
  refine (C1.out _).mono ?_
  rintro e w2 ⟨rfl, hb2⟩
  have hB2 : Below w.heap.size w w2 := Below.after (by first | (go_grown; done) | (refine below_drewN ?_ _; go_grown; done)) hb2
  have hs2 : w.heap.size ≤ w2.heap.size := hB2.size
  have hz2_0 : w.heap.size < w2.heap.size := by have := hb2.size; (try simp at this); omega
  have hz2_1 : w.heap.size + 1 < w2.heap.size := by have := hb2.size; (try simp at this); omega
  have hc2_0 : w2.cell? ⟨w.heap.size, 0, none⟩ = some (.int .i64 a) := (hb2.cell (p := ⟨w.heap.size, 0, none⟩) (by first | omega | (simp; done) | (simp; omega))).trans (by simp [go_sem, *])
  have hc2_1 : w2.cell? ⟨w.heap.size, 1, none⟩ = some (.int .i64 b) := (hb2.cell (p := ⟨w.heap.size, 1, none⟩) (by first | omega | (simp; done) | (simp; omega))).trans (by simp [go_sem, *])
  have hc2_2 : w2.cell? ⟨w.heap.size + 1, 0, none⟩ = some (.int .i64 c) := (hb2.cell (p := ⟨w.heap.size + 1, 0, none⟩) (by first | omega | (simp; done) | (simp; omega))).trans (by simp [go_sem, *])
  have hc2_3 : w2.cell? ⟨w.heap.size + 1, 1, none⟩ = some (.int .i64 d) := (hb2.cell (p := ⟨w.heap.size + 1, 1, none⟩) (by first | omega | (simp; done) | (simp; omega))).trans (by simp [go_sem, *])
  clear hc1_0 hc1_1 hc1_2 hc1_3
  clear hb2
  go_wp2_with fail
  obtain ⟨w3, hw3⟩ : ∃ w3, w3 = w2.alloc (.cells #[.int .i64 x1, .int .i64 x2] 52) := ⟨_, rfl⟩
  rw [← hw3]
  have hb3 : Below w2.heap.size w2 w3 := by rw [hw3]; exact (Below.refl _ _).alloc (Nat.le_refl _) _
  have hB3 : Below w.heap.size w w3 := Below.after hB2 hb3
  have hs3 : w.heap.size ≤ w3.heap.size := hB3.size
  have hn3 : w2.heap.size < w3.heap.size := by rw [hw3]; simp
  have hz3_0 : w.heap.size < w3.heap.size := by omega
  have hz3_1 : w.heap.size + 1 < w3.heap.size := by omega
  have hz3_2 : w2.heap.size < w3.heap.size := by omega
  have hc3_0 : w3.cell? ⟨w.heap.size, 0, none⟩ = some (.int .i64 a) := by rw [hw3]; simp [go_sem, *]
  have hc3_1 : w3.cell? ⟨w.heap.size, 1, none⟩ = some (.int .i64 b) := by rw [hw3]; simp [go_sem, *]
  have hc3_2 : w3.cell? ⟨w.heap.size + 1, 0, none⟩ = some (.int .i64 c) := by rw [hw3]; simp [go_sem, *]
  have hc3_3 : w3.cell? ⟨w.heap.size + 1, 1, none⟩ = some (.int .i64 d) := by rw [hw3]; simp [go_sem, *]
  have hc3_4 : w3.cell? ⟨w2.heap.size, 0, none⟩ = some (.int .i64 x1) := by rw [hw3]; simp [go_sem, *]
  have hc3_5 : w3.cell? ⟨w2.heap.size, 1, none⟩ = some (.int .i64 x2) := by rw [hw3]; simp [go_sem, *]
  clear hc2_0 hc2_1 hc2_2 hc2_3 hw3 hb3
  have key3 : ∀ W, Below w3.heap.size w3 W → W.cell? ⟨w.heap.size, 0, none⟩ = some (.int .i64 a) ∧ W.cell? ⟨w.heap.size, 1, none⟩ = some (.int .i64 b) ∧ W.cell? ⟨w.heap.size + 1, 0, none⟩ = some (.int .i64 c) ∧ W.cell? ⟨w.heap.size + 1, 1, none⟩ = some (.int .i64 d) ∧ W.cell? ⟨w2.heap.size, 0, none⟩ = some (.int .i64 x1) ∧ W.cell? ⟨w2.heap.size, 1, none⟩ = some (.int .i64 x2) ∧ Below w3.heap.size w3 W :=
    fun W hS => ⟨(hS.cell (by first | omega | (simp; done) | (simp; omega))).trans (by assumption), (hS.cell (by first | omega | (simp; done) | (simp; omega))).trans (by assumption), (hS.cell (by first | omega | (simp; done) | (simp; omega))).trans (by assumption), (hS.cell (by first | omega | (simp; done) | (simp; omega))).trans (by assumption), (hS.cell (by first | omega | (simp; done) | (simp; omega))).trans (by assumption), (hS.cell (by first | omega | (simp; done) | (simp; omega))).trans (by assumption), hS⟩
  have KEY3 := Lib.hid key3
  clear key3
  go_region_held3 (fun w' => w'.cell? ⟨w.heap.size, 0, none⟩ = some (.int .i64 a) ∧ w'.cell? ⟨w.heap.size, 1, none⟩ = some (.int .i64 b) ∧ w'.cell? ⟨w.heap.size + 1, 0, none⟩ = some (.int .i64 c) ∧ w'.cell? ⟨w.heap.size + 1, 1, none⟩ = some (.int .i64 d) ∧ w'.cell? ⟨w2.heap.size, 0, none⟩ = some (.int .i64 x1) ∧ w'.cell? ⟨w2.heap.size, 1, none⟩ = some (.int .i64 x2) ∧ Below w3.heap.size w3 w')
    ((refine KEY3.out _ ?_; first
        | (with_reducible exact Below.drew (Below.refl _ _))
        | (with_reducible refine Below.after ?_ hb; go_split_ands; with_reducible assumption)
        | fail))
    (first
      | (go_at_call 23; refine (measure_any _ _ _).mono ?_; rintro e w4 ⟨rfl, hb⟩)
      | fail)
  have hb4 : Below w3.heap.size w3 w4 := by go_split_ands; with_reducible assumption
  have hB4 : Below w.heap.size w w4 := Below.after hB3 hb4
  have hs4 : w.heap.size ≤ w4.heap.size := hB4.size
  have hz4_0 : w.heap.size < w4.heap.size := by have := hb4.size; (try simp at this); omega
  have hz4_1 : w.heap.size + 1 < w4.heap.size := by have := hb4.size; (try simp at this); omega
  have hz4_2 : w2.heap.size < w4.heap.size := by have := hb4.size; (try simp at this); omega
  have hc4_0 : w4.cell? ⟨w.heap.size, 0, none⟩ = some (.int .i64 a) := (hb4.cell (p := ⟨w.heap.size, 0, none⟩) (by first | omega | (simp; done) | (simp; omega))).trans (by simp [go_sem, *])
  have hc4_1 : w4.cell? ⟨w.heap.size, 1, none⟩ = some (.int .i64 b) := (hb4.cell (p := ⟨w.heap.size, 1, none⟩) (by first | omega | (simp; done) | (simp; omega))).trans (by simp [go_sem, *])
  have hc4_2 : w4.cell? ⟨w.heap.size + 1, 0, none⟩ = some (.int .i64 c) := (hb4.cell (p := ⟨w.heap.size + 1, 0, none⟩) (by first | omega | (simp; done) | (simp; omega))).trans (by simp [go_sem, *])
  have hc4_3 : w4.cell? ⟨w.heap.size + 1, 1, none⟩ = some (.int .i64 d) := (hb4.cell (p := ⟨w.heap.size + 1, 1, none⟩) (by first | omega | (simp; done) | (simp; omega))).trans (by simp [go_sem, *])
  have hc4_4 : w4.cell? ⟨w2.heap.size, 0, none⟩ = some (.int .i64 x1) := (hb4.cell (p := ⟨w2.heap.size, 0, none⟩) (by first | omega | (simp; done) | (simp; omega))).trans (by simp [go_sem, *])
  have hc4_5 : w4.cell? ⟨w2.heap.size, 1, none⟩ = some (.int .i64 x2) := (hb4.cell (p := ⟨w2.heap.size, 1, none⟩) (by first | omega | (simp; done) | (simp; omega))).trans (by simp [go_sem, *])
  clear hc3_0 hc3_1 hc3_2 hc3_3 hc3_4 hc3_5
  clear hb4
  go_wp2_with fail
  refine (C2.out _).mono ?_
  rintro e w5 ⟨rfl, hb5⟩
  have hB5 : Below w.heap.size w w5 := Below.after (by first | (go_grown; done) | (refine below_drewN ?_ _; go_grown; done)) hb5
  have hs5 : w.heap.size ≤ w5.heap.size := hB5.size
  have hz5_0 : w.heap.size < w5.heap.size := by have := hb5.size; (try simp at this); omega
  have hz5_1 : w.heap.size + 1 < w5.heap.size := by have := hb5.size; (try simp at this); omega
  have hz5_2 : w2.heap.size < w5.heap.size := by have := hb5.size; (try simp at this); omega
  have hc5_0 : w5.cell? ⟨w.heap.size, 0, none⟩ = some (.int .i64 a) := (hb5.cell (p := ⟨w.heap.size, 0, none⟩) (by first | omega | (simp; done) | (simp; omega))).trans (by simp [go_sem, *])
  have hc5_1 : w5.cell? ⟨w.heap.size, 1, none⟩ = some (.int .i64 b) := (hb5.cell (p := ⟨w.heap.size, 1, none⟩) (by first | omega | (simp; done) | (simp; omega))).trans (by simp [go_sem, *])
  have hc5_2 : w5.cell? ⟨w.heap.size + 1, 0, none⟩ = some (.int .i64 c) := (hb5.cell (p := ⟨w.heap.size + 1, 0, none⟩) (by first | omega | (simp; done) | (simp; omega))).trans (by simp [go_sem, *])
  have hc5_3 : w5.cell? ⟨w.heap.size + 1, 1, none⟩ = some (.int .i64 d) := (hb5.cell (p := ⟨w.heap.size + 1, 1, none⟩) (by first | omega | (simp; done) | (simp; omega))).trans (by simp [go_sem, *])
  have hc5_4 : w5.cell? ⟨w2.heap.size, 0, none⟩ = some (.int .i64 x1) := (hb5.cell (p := ⟨w2.heap.size, 0, none⟩) (by first | omega | (simp; done) | (simp; omega))).trans (by simp [go_sem, *])
  have hc5_5 : w5.cell? ⟨w2.heap.size, 1, none⟩ = some (.int .i64 x2) := (hb5.cell (p := ⟨w2.heap.size, 1, none⟩) (by first | omega | (simp; done) | (simp; omega))).trans (by simp [go_sem, *])
  clear hc4_0 hc4_1 hc4_2 hc4_3 hc4_4 hc4_5
  clear hb5
  go_wp2_with fail
  refine (C3.out _).mono ?_
  rintro e w6 ⟨rfl, hb6⟩
  have hB6 : Below w.heap.size w w6 := Below.after (by first | (go_grown; done) | (refine below_drewN ?_ _; go_grown; done)) hb6
  have hs6 : w.heap.size ≤ w6.heap.size := hB6.size
  have hz6_0 : w.heap.size < w6.heap.size := by have := hb6.size; (try simp at this); omega
  have hz6_1 : w.heap.size + 1 < w6.heap.size := by have := hb6.size; (try simp at this); omega
  have hz6_2 : w2.heap.size < w6.heap.size := by have := hb6.size; (try simp at this); omega
  have hz6_3 : w5.heap.size < w6.heap.size := by have := hb6.size; (try simp at this); omega
  have hc6_0 : w6.cell? ⟨w.heap.size, 0, none⟩ = some (.int .i64 a) := (hb6.cell (p := ⟨w.heap.size, 0, none⟩) (by first | omega | (simp; done) | (simp; omega))).trans (by simp [go_sem, *])
  have hc6_1 : w6.cell? ⟨w.heap.size, 1, none⟩ = some (.int .i64 b) := (hb6.cell (p := ⟨w.heap.size, 1, none⟩) (by first | omega | (simp; done) | (simp; omega))).trans (by simp [go_sem, *])
  have hc6_2 : w6.cell? ⟨w.heap.size + 1, 0, none⟩ = some (.int .i64 c) := (hb6.cell (p := ⟨w.heap.size + 1, 0, none⟩) (by first | omega | (simp; done) | (simp; omega))).trans (by simp [go_sem, *])
  have hc6_3 : w6.cell? ⟨w.heap.size + 1, 1, none⟩ = some (.int .i64 d) := (hb6.cell (p := ⟨w.heap.size + 1, 1, none⟩) (by first | omega | (simp; done) | (simp; omega))).trans (by simp [go_sem, *])
  have hc6_4 : w6.cell? ⟨w2.heap.size, 0, none⟩ = some (.int .i64 x1) := (hb6.cell (p := ⟨w2.heap.size, 0, none⟩) (by first | omega | (simp; done) | (simp; omega))).trans (by simp [go_sem, *])
  have hc6_5 : w6.cell? ⟨w2.heap.size, 1, none⟩ = some (.int .i64 x2) := (hb6.cell (p := ⟨w2.heap.size, 1, none⟩) (by first | omega | (simp; done) | (simp; omega))).trans (by simp [go_sem, *])
  have hc6_6 : w6.cell? ⟨w5.heap.size, 0, none⟩ = some (.int .i64 a1) := (hb6.cell (p := ⟨w5.heap.size, 0, none⟩) (by first | omega | (simp; done) | (simp; omega))).trans (by simp [go_sem, *])
  have hc6_7 : w6.cell? ⟨w5.heap.size, 1, none⟩ = some (.int .i64 a2) := (hb6.cell (p := ⟨w5.heap.size, 1, none⟩) (by first | omega | (simp; done) | (simp; omega))).trans (by simp [go_sem, *])
  clear hc5_0 hc5_1 hc5_2 hc5_3 hc5_4 hc5_5
  clear hb6
  go_wp2_with fail
  refine (C8.out _).mono ?_
  rintro e w7 ⟨rfl, hb7⟩
  have hB7 : Below w.heap.size w w7 := Below.after (by first | (go_grown; done) | (refine below_drewN ?_ _; go_grown; done)) hb7
  have hs7 : w.heap.size ≤ w7.heap.size := hB7.size
  have hz7_0 : w.heap.size < w7.heap.size := by have := hb7.size; (try simp at this); omega
  have hz7_1 : w.heap.size + 1 < w7.heap.size := by have := hb7.size; (try simp at this); omega
  have hz7_2 : w2.heap.size < w7.heap.size := by have := hb7.size; (try simp at this); omega
  have hz7_3 : w5.heap.size < w7.heap.size := by have := hb7.size; (try simp at this); omega
  have hz7_4 : w6.heap.size < w7.heap.size := by have := hb7.size; (try simp at this); omega
  have hc7_0 : w7.cell? ⟨w.heap.size, 0, none⟩ = some (.int .i64 a) := (hb7.cell (p := ⟨w.heap.size, 0, none⟩) (by first | omega | (simp; done) | (simp; omega))).trans (by simp [go_sem, *])
  have hc7_1 : w7.cell? ⟨w.heap.size, 1, none⟩ = some (.int .i64 b) := (hb7.cell (p := ⟨w.heap.size, 1, none⟩) (by first | omega | (simp; done) | (simp; omega))).trans (by simp [go_sem, *])
  have hc7_2 : w7.cell? ⟨w.heap.size + 1, 0, none⟩ = some (.int .i64 c) := (hb7.cell (p := ⟨w.heap.size + 1, 0, none⟩) (by first | omega | (simp; done) | (simp; omega))).trans (by simp [go_sem, *])
  have hc7_3 : w7.cell? ⟨w.heap.size + 1, 1, none⟩ = some (.int .i64 d) := (hb7.cell (p := ⟨w.heap.size + 1, 1, none⟩) (by first | omega | (simp; done) | (simp; omega))).trans (by simp [go_sem, *])
  have hc7_4 : w7.cell? ⟨w2.heap.size, 0, none⟩ = some (.int .i64 x1) := (hb7.cell (p := ⟨w2.heap.size, 0, none⟩) (by first | omega | (simp; done) | (simp; omega))).trans (by simp [go_sem, *])
  have hc7_5 : w7.cell? ⟨w2.heap.size, 1, none⟩ = some (.int .i64 x2) := (hb7.cell (p := ⟨w2.heap.size, 1, none⟩) (by first | omega | (simp; done) | (simp; omega))).trans (by simp [go_sem, *])
  have hc7_6 : w7.cell? ⟨w5.heap.size, 0, none⟩ = some (.int .i64 a1) := (hb7.cell (p := ⟨w5.heap.size, 0, none⟩) (by first | omega | (simp; done) | (simp; omega))).trans (by simp [go_sem, *])
  have hc7_7 : w7.cell? ⟨w5.heap.size, 1, none⟩ = some (.int .i64 a2) := (hb7.cell (p := ⟨w5.heap.size, 1, none⟩) (by first | omega | (simp; done) | (simp; omega))).trans (by simp [go_sem, *])
  have hc7_8 : w7.cell? ⟨w6.heap.size, 0, none⟩ = some (.int .i64 b1) := (hb7.cell (p := ⟨w6.heap.size, 0, none⟩) (by first | omega | (simp; done) | (simp; omega))).trans (by simp [go_sem, *])
  have hc7_9 : w7.cell? ⟨w6.heap.size, 1, none⟩ = some (.int .i64 b2) := (hb7.cell (p := ⟨w6.heap.size, 1, none⟩) (by first | omega | (simp; done) | (simp; omega))).trans (by simp [go_sem, *])
  clear hc6_0 hc6_1 hc6_2 hc6_3 hc6_4 hc6_5 hc6_6 hc6_7
  clear hb7
  go_wp2_with fail
  refine (measure_any _ _ _).mono ?_
  rintro e w8 ⟨rfl, hb8⟩
  have hB8 : Below w.heap.size w w8 := Below.after (by first | (go_grown; done) | (refine below_drewN ?_ _; go_grown; done)) hb8
  have hs8 : w.heap.size ≤ w8.heap.size := hB8.size
  have hz8_0 : w.heap.size < w8.heap.size := by have := hb8.size; (try simp at this); omega
  have hz8_1 : w.heap.size + 1 < w8.heap.size := by have := hb8.size; (try simp at this); omega
  have hz8_2 : w2.heap.size < w8.heap.size := by have := hb8.size; (try simp at this); omega
  have hz8_3 : w5.heap.size < w8.heap.size := by have := hb8.size; (try simp at this); omega
  have hz8_4 : w6.heap.size < w8.heap.size := by have := hb8.size; (try simp at this); omega
  have hc8_0 : w8.cell? ⟨w.heap.size, 0, none⟩ = some (.int .i64 a) := (hb8.cell (p := ⟨w.heap.size, 0, none⟩) (by first | omega | (simp; done) | (simp; omega))).trans (by simp [go_sem, *])
  have hc8_1 : w8.cell? ⟨w.heap.size, 1, none⟩ = some (.int .i64 b) := (hb8.cell (p := ⟨w.heap.size, 1, none⟩) (by first | omega | (simp; done) | (simp; omega))).trans (by simp [go_sem, *])
  have hc8_2 : w8.cell? ⟨w.heap.size + 1, 0, none⟩ = some (.int .i64 c) := (hb8.cell (p := ⟨w.heap.size + 1, 0, none⟩) (by first | omega | (simp; done) | (simp; omega))).trans (by simp [go_sem, *])
  have hc8_3 : w8.cell? ⟨w.heap.size + 1, 1, none⟩ = some (.int .i64 d) := (hb8.cell (p := ⟨w.heap.size + 1, 1, none⟩) (by first | omega | (simp; done) | (simp; omega))).trans (by simp [go_sem, *])
  have hc8_4 : w8.cell? ⟨w2.heap.size, 0, none⟩ = some (.int .i64 x1) := (hb8.cell (p := ⟨w2.heap.size, 0, none⟩) (by first | omega | (simp; done) | (simp; omega))).trans (by simp [go_sem, *])
  have hc8_5 : w8.cell? ⟨w2.heap.size, 1, none⟩ = some (.int .i64 x2) := (hb8.cell (p := ⟨w2.heap.size, 1, none⟩) (by first | omega | (simp; done) | (simp; omega))).trans (by simp [go_sem, *])
  have hc8_6 : w8.cell? ⟨w5.heap.size, 0, none⟩ = some (.int .i64 a1) := (hb8.cell (p := ⟨w5.heap.size, 0, none⟩) (by first | omega | (simp; done) | (simp; omega))).trans (by simp [go_sem, *])
  have hc8_7 : w8.cell? ⟨w5.heap.size, 1, none⟩ = some (.int .i64 a2) := (hb8.cell (p := ⟨w5.heap.size, 1, none⟩) (by first | omega | (simp; done) | (simp; omega))).trans (by simp [go_sem, *])
  have hc8_8 : w8.cell? ⟨w6.heap.size, 0, none⟩ = some (.int .i64 b1) := (hb8.cell (p := ⟨w6.heap.size, 0, none⟩) (by first | omega | (simp; done) | (simp; omega))).trans (by simp [go_sem, *])
  have hc8_9 : w8.cell? ⟨w6.heap.size, 1, none⟩ = some (.int .i64 b2) := (hb8.cell (p := ⟨w6.heap.size, 1, none⟩) (by first | omega | (simp; done) | (simp; omega))).trans (by simp [go_sem, *])
  clear hc7_0 hc7_1 hc7_2 hc7_3 hc7_4 hc7_5 hc7_6 hc7_7 hc7_8 hc7_9
  clear hb8
  go_wp2_with fail
  refine (C4.out _).mono ?_
  rintro e w9 ⟨rfl, hb9⟩
  have hB9 : Below w.heap.size w w9 := Below.after (by first | (go_grown; done) | (refine below_drewN ?_ _; go_grown; done)) hb9
  have hs9 : w.heap.size ≤ w9.heap.size := hB9.size
  have hz9_0 : w.heap.size < w9.heap.size := by have := hb9.size; (try simp at this); omega
  have hz9_1 : w.heap.size + 1 < w9.heap.size := by have := hb9.size; (try simp at this); omega
  have hz9_2 : w2.heap.size < w9.heap.size := by have := hb9.size; (try simp at this); omega
  have hz9_3 : w5.heap.size < w9.heap.size := by have := hb9.size; (try simp at this); omega
  have hz9_4 : w6.heap.size < w9.heap.size := by have := hb9.size; (try simp at this); omega
  have hc9_0 : w9.cell? ⟨w.heap.size, 0, none⟩ = some (.int .i64 a) := (hb9.cell (p := ⟨w.heap.size, 0, none⟩) (by first | omega | (simp; done) | (simp; omega))).trans (by simp [go_sem, *])
  have hc9_1 : w9.cell? ⟨w.heap.size, 1, none⟩ = some (.int .i64 b) := (hb9.cell (p := ⟨w.heap.size, 1, none⟩) (by first | omega | (simp; done) | (simp; omega))).trans (by simp [go_sem, *])
  have hc9_2 : w9.cell? ⟨w.heap.size + 1, 0, none⟩ = some (.int .i64 c) := (hb9.cell (p := ⟨w.heap.size + 1, 0, none⟩) (by first | omega | (simp; done) | (simp; omega))).trans (by simp [go_sem, *])
  have hc9_3 : w9.cell? ⟨w.heap.size + 1, 1, none⟩ = some (.int .i64 d) := (hb9.cell (p := ⟨w.heap.size + 1, 1, none⟩) (by first | omega | (simp; done) | (simp; omega))).trans (by simp [go_sem, *])
  have hc9_4 : w9.cell? ⟨w2.heap.size, 0, none⟩ = some (.int .i64 x1) := (hb9.cell (p := ⟨w2.heap.size, 0, none⟩) (by first | omega | (simp; done) | (simp; omega))).trans (by simp [go_sem, *])
  have hc9_5 : w9.cell? ⟨w2.heap.size, 1, none⟩ = some (.int .i64 x2) := (hb9.cell (p := ⟨w2.heap.size, 1, none⟩) (by first | omega | (simp; done) | (simp; omega))).trans (by simp [go_sem, *])
  have hc9_6 : w9.cell? ⟨w5.heap.size, 0, none⟩ = some (.int .i64 a1) := (hb9.cell (p := ⟨w5.heap.size, 0, none⟩) (by first | omega | (simp; done) | (simp; omega))).trans (by simp [go_sem, *])
  have hc9_7 : w9.cell? ⟨w5.heap.size, 1, none⟩ = some (.int .i64 a2) := (hb9.cell (p := ⟨w5.heap.size, 1, none⟩) (by first | omega | (simp; done) | (simp; omega))).trans (by simp [go_sem, *])
  have hc9_8 : w9.cell? ⟨w6.heap.size, 0, none⟩ = some (.int .i64 b1) := (hb9.cell (p := ⟨w6.heap.size, 0, none⟩) (by first | omega | (simp; done) | (simp; omega))).trans (by simp [go_sem, *])
  have hc9_9 : w9.cell? ⟨w6.heap.size, 1, none⟩ = some (.int .i64 b2) := (hb9.cell (p := ⟨w6.heap.size, 1, none⟩) (by first | omega | (simp; done) | (simp; omega))).trans (by simp [go_sem, *])
  clear hc8_0 hc8_1 hc8_2 hc8_3 hc8_4 hc8_5 hc8_6 hc8_7 hc8_8 hc8_9
  clear hb9
  go_wp2_with fail
  go_quiet (fail)
  go_wp2_with fail
  refine (C5.out _).mono ?_
  rintro e w10 ⟨rfl, hb10⟩
  have hB10 : Below w.heap.size w w10 := Below.after (by first | (go_grown; done) | (refine below_drewN ?_ _; go_grown; done)) hb10
  have hs10 : w.heap.size ≤ w10.heap.size := hB10.size
  have hz10_0 : w.heap.size < w10.heap.size := by have := hb10.size; (try simp at this); omega
  have hz10_1 : w.heap.size + 1 < w10.heap.size := by have := hb10.size; (try simp at this); omega
  have hz10_2 : w2.heap.size < w10.heap.size := by have := hb10.size; (try simp at this); omega
  have hz10_3 : w5.heap.size < w10.heap.size := by have := hb10.size; (try simp at this); omega
  have hz10_4 : w6.heap.size < w10.heap.size := by have := hb10.size; (try simp at this); omega
  have hz10_5 : w9.heap.size < w10.heap.size := by have := hb10.size; (try simp at this); omega
  have hc10_0 : w10.cell? ⟨w.heap.size, 0, none⟩ = some (.int .i64 a) := (hb10.cell (p := ⟨w.heap.size, 0, none⟩) (by first | omega | (simp; done) | (simp; omega))).trans (by simp [go_sem, *])
  have hc10_1 : w10.cell? ⟨w.heap.size, 1, none⟩ = some (.int .i64 b) := (hb10.cell (p := ⟨w.heap.size, 1, none⟩) (by first | omega | (simp; done) | (simp; omega))).trans (by simp [go_sem, *])
  have hc10_2 : w10.cell? ⟨w.heap.size + 1, 0, none⟩ = some (.int .i64 c) := (hb10.cell (p := ⟨w.heap.size + 1, 0, none⟩) (by first | omega | (simp; done) | (simp; omega))).trans (by simp [go_sem, *])
  have hc10_3 : w10.cell? ⟨w.heap.size + 1, 1, none⟩ = some (.int .i64 d) := (hb10.cell (p := ⟨w.heap.size + 1, 1, none⟩) (by first | omega | (simp; done) | (simp; omega))).trans (by simp [go_sem, *])
  have hc10_4 : w10.cell? ⟨w2.heap.size, 0, none⟩ = some (.int .i64 x1) := (hb10.cell (p := ⟨w2.heap.size, 0, none⟩) (by first | omega | (simp; done) | (simp; omega))).trans (by simp [go_sem, *])
  have hc10_5 : w10.cell? ⟨w2.heap.size, 1, none⟩ = some (.int .i64 x2) := (hb10.cell (p := ⟨w2.heap.size, 1, none⟩) (by first | omega | (simp; done) | (simp; omega))).trans (by simp [go_sem, *])
  have hc10_6 : w10.cell? ⟨w5.heap.size, 0, none⟩ = some (.int .i64 a1) := (hb10.cell (p := ⟨w5.heap.size, 0, none⟩) (by first | omega | (simp; done) | (simp; omega))).trans (by simp [go_sem, *])
  have hc10_7 : w10.cell? ⟨w5.heap.size, 1, none⟩ = some (.int .i64 a2) := (hb10.cell (p := ⟨w5.heap.size, 1, none⟩) (by first | omega | (simp; done) | (simp; omega))).trans (by simp [go_sem, *])
  have hc10_8 : w10.cell? ⟨w6.heap.size, 0, none⟩ = some (.int .i64 b1) := (hb10.cell (p := ⟨w6.heap.size, 0, none⟩) (by first | omega | (simp; done) | (simp; omega))).trans (by simp [go_sem, *])
  have hc10_9 : w10.cell? ⟨w6.heap.size, 1, none⟩ = some (.int .i64 b2) := (hb10.cell (p := ⟨w6.heap.size, 1, none⟩) (by first | omega | (simp; done) | (simp; omega))).trans (by simp [go_sem, *])
  have hc10_10 : w10.cell? ⟨w9.heap.size, 0, none⟩ = some (.int .i64 o1) := (hb10.cell (p := ⟨w9.heap.size, 0, none⟩) (by first | omega | (simp; done) | (simp; omega))).trans (by simp [go_sem, *])
  have hc10_11 : w10.cell? ⟨w9.heap.size, 1, none⟩ = some (.int .i64 o2) := (hb10.cell (p := ⟨w9.heap.size, 1, none⟩) (by first | omega | (simp; done) | (simp; omega))).trans (by simp [go_sem, *])
  clear hc9_0 hc9_1 hc9_2 hc9_3 hc9_4 hc9_5 hc9_6 hc9_7 hc9_8 hc9_9
  clear hb10
  go_wp2_with fail
  refine (C6.out _).mono ?_
  rintro e w11 ⟨rfl, hb11⟩
  have hB11 : Below w.heap.size w w11 := Below.after (by first | (go_grown; done) | (refine below_drewN ?_ _; go_grown; done)) hb11
  have hs11 : w.heap.size ≤ w11.heap.size := hB11.size
  have hz11_0 : w.heap.size < w11.heap.size := by have := hb11.size; (try simp at this); omega
  have hz11_1 : w.heap.size + 1 < w11.heap.size := by have := hb11.size; (try simp at this); omega
  have hz11_2 : w2.heap.size < w11.heap.size := by have := hb11.size; (try simp at this); omega
  have hz11_3 : w5.heap.size < w11.heap.size := by have := hb11.size; (try simp at this); omega
  have hz11_4 : w6.heap.size < w11.heap.size := by have := hb11.size; (try simp at this); omega
  have hz11_5 : w9.heap.size < w11.heap.size := by have := hb11.size; (try simp at this); omega
  have hz11_6 : w10.heap.size < w11.heap.size := by have := hb11.size; (try simp at this); omega
  have hc11_0 : w11.cell? ⟨w.heap.size, 0, none⟩ = some (.int .i64 a) := (hb11.cell (p := ⟨w.heap.size, 0, none⟩) (by first | omega | (simp; done) | (simp; omega))).trans (by simp [go_sem, *])
  have hc11_1 : w11.cell? ⟨w.heap.size, 1, none⟩ = some (.int .i64 b) := (hb11.cell (p := ⟨w.heap.size, 1, none⟩) (by first | omega | (simp; done) | (simp; omega))).trans (by simp [go_sem, *])
  have hc11_2 : w11.cell? ⟨w.heap.size + 1, 0, none⟩ = some (.int .i64 c) := (hb11.cell (p := ⟨w.heap.size + 1, 0, none⟩) (by first | omega | (simp; done) | (simp; omega))).trans (by simp [go_sem, *])
  have hc11_3 : w11.cell? ⟨w.heap.size + 1, 1, none⟩ = some (.int .i64 d) := (hb11.cell (p := ⟨w.heap.size + 1, 1, none⟩) (by first | omega | (simp; done) | (simp; omega))).trans (by simp [go_sem, *])
  have hc11_4 : w11.cell? ⟨w2.heap.size, 0, none⟩ = some (.int .i64 x1) := (hb11.cell (p := ⟨w2.heap.size, 0, none⟩) (by first | omega | (simp; done) | (simp; omega))).trans (by simp [go_sem, *])
  have hc11_5 : w11.cell? ⟨w2.heap.size, 1, none⟩ = some (.int .i64 x2) := (hb11.cell (p := ⟨w2.heap.size, 1, none⟩) (by first | omega | (simp; done) | (simp; omega))).trans (by simp [go_sem, *])
  have hc11_6 : w11.cell? ⟨w5.heap.size, 0, none⟩ = some (.int .i64 a1) := (hb11.cell (p := ⟨w5.heap.size, 0, none⟩) (by first | omega | (simp; done) | (simp; omega))).trans (by simp [go_sem, *])
  have hc11_7 : w11.cell? ⟨w5.heap.size, 1, none⟩ = some (.int .i64 a2) := (hb11.cell (p := ⟨w5.heap.size, 1, none⟩) (by first | omega | (simp; done) | (simp; omega))).trans (by simp [go_sem, *])
  have hc11_8 : w11.cell? ⟨w6.heap.size, 0, none⟩ = some (.int .i64 b1) := (hb11.cell (p := ⟨w6.heap.size, 0, none⟩) (by first | omega | (simp; done) | (simp; omega))).trans (by simp [go_sem, *])
  have hc11_9 : w11.cell? ⟨w6.heap.size, 1, none⟩ = some (.int .i64 b2) := (hb11.cell (p := ⟨w6.heap.size, 1, none⟩) (by first | omega | (simp; done) | (simp; omega))).trans (by simp [go_sem, *])
  have hc11_10 : w11.cell? ⟨w9.heap.size, 0, none⟩ = some (.int .i64 o1) := (hb11.cell (p := ⟨w9.heap.size, 0, none⟩) (by first | omega | (simp; done) | (simp; omega))).trans (by simp [go_sem, *])
  have hc11_11 : w11.cell? ⟨w9.heap.size, 1, none⟩ = some (.int .i64 o2) := (hb11.cell (p := ⟨w9.heap.size, 1, none⟩) (by first | omega | (simp; done) | (simp; omega))).trans (by simp [go_sem, *])
  have hc11_12 : w11.cell? ⟨w10.heap.size, 0, none⟩ = some (.int .i64 y1) := (hb11.cell (p := ⟨w10.heap.size, 0, none⟩) (by first | omega | (simp; done) | (simp; omega))).trans (by simp [go_sem, *])
  have hc11_13 : w11.cell? ⟨w10.heap.size, 1, none⟩ = some (.int .i64 y2) := (hb11.cell (p := ⟨w10.heap.size, 1, none⟩) (by first | omega | (simp; done) | (simp; omega))).trans (by simp [go_sem, *])
  clear hc10_0 hc10_1 hc10_2 hc10_3 hc10_4 hc10_5 hc10_6 hc10_7 hc10_8 hc10_9 hc10_10 hc10_11
  clear hb11
  go_wp2_with fail
  refine (C7.out _).mono ?_
  rintro e w12 ⟨rfl, hb12⟩
  have hB12 : Below w.heap.size w w12 := Below.after (by first | (go_grown; done) | (refine below_drewN ?_ _; go_grown; done)) hb12
  have hs12 : w.heap.size ≤ w12.heap.size := hB12.size
  have hz12_0 : w.heap.size < w12.heap.size := by have := hb12.size; (try simp at this); omega
  have hz12_1 : w.heap.size + 1 < w12.heap.size := by have := hb12.size; (try simp at this); omega
  have hz12_2 : w2.heap.size < w12.heap.size := by have := hb12.size; (try simp at this); omega
  have hz12_3 : w5.heap.size < w12.heap.size := by have := hb12.size; (try simp at this); omega
  have hz12_4 : w6.heap.size < w12.heap.size := by have := hb12.size; (try simp at this); omega
  have hz12_5 : w9.heap.size < w12.heap.size := by have := hb12.size; (try simp at this); omega
  have hz12_6 : w10.heap.size < w12.heap.size := by have := hb12.size; (try simp at this); omega
  have hz12_7 : w11.heap.size < w12.heap.size := by have := hb12.size; (try simp at this); omega
  have hc12_0 : w12.cell? ⟨w.heap.size, 0, none⟩ = some (.int .i64 a) := (hb12.cell (p := ⟨w.heap.size, 0, none⟩) (by first | omega | (simp; done) | (simp; omega))).trans (by simp [go_sem, *])
  have hc12_1 : w12.cell? ⟨w.heap.size, 1, none⟩ = some (.int .i64 b) := (hb12.cell (p := ⟨w.heap.size, 1, none⟩) (by first | omega | (simp; done) | (simp; omega))).trans (by simp [go_sem, *])
  have hc12_2 : w12.cell? ⟨w.heap.size + 1, 0, none⟩ = some (.int .i64 c) := (hb12.cell (p := ⟨w.heap.size + 1, 0, none⟩) (by first | omega | (simp; done) | (simp; omega))).trans (by simp [go_sem, *])
  have hc12_3 : w12.cell? ⟨w.heap.size + 1, 1, none⟩ = some (.int .i64 d) := (hb12.cell (p := ⟨w.heap.size + 1, 1, none⟩) (by first | omega | (simp; done) | (simp; omega))).trans (by simp [go_sem, *])
  have hc12_4 : w12.cell? ⟨w2.heap.size, 0, none⟩ = some (.int .i64 x1) := (hb12.cell (p := ⟨w2.heap.size, 0, none⟩) (by first | omega | (simp; done) | (simp; omega))).trans (by simp [go_sem, *])
  have hc12_5 : w12.cell? ⟨w2.heap.size, 1, none⟩ = some (.int .i64 x2) := (hb12.cell (p := ⟨w2.heap.size, 1, none⟩) (by first | omega | (simp; done) | (simp; omega))).trans (by simp [go_sem, *])
  have hc12_6 : w12.cell? ⟨w5.heap.size, 0, none⟩ = some (.int .i64 a1) := (hb12.cell (p := ⟨w5.heap.size, 0, none⟩) (by first | omega | (simp; done) | (simp; omega))).trans (by simp [go_sem, *])
  have hc12_7 : w12.cell? ⟨w5.heap.size, 1, none⟩ = some (.int .i64 a2) := (hb12.cell (p := ⟨w5.heap.size, 1, none⟩) (by first | omega | (simp; done) | (simp; omega))).trans (by simp [go_sem, *])
  have hc12_8 : w12.cell? ⟨w6.heap.size, 0, none⟩ = some (.int .i64 b1) := (hb12.cell (p := ⟨w6.heap.size, 0, none⟩) (by first | omega | (simp; done) | (simp; omega))).trans (by simp [go_sem, *])
  have hc12_9 : w12.cell? ⟨w6.heap.size, 1, none⟩ = some (.int .i64 b2) := (hb12.cell (p := ⟨w6.heap.size, 1, none⟩) (by first | omega | (simp; done) | (simp; omega))).trans (by simp [go_sem, *])
  have hc12_10 : w12.cell? ⟨w9.heap.size, 0, none⟩ = some (.int .i64 o1) := (hb12.cell (p := ⟨w9.heap.size, 0, none⟩) (by first | omega | (simp; done) | (simp; omega))).trans (by simp [go_sem, *])
  have hc12_11 : w12.cell? ⟨w9.heap.size, 1, none⟩ = some (.int .i64 o2) := (hb12.cell (p := ⟨w9.heap.size, 1, none⟩) (by first | omega | (simp; done) | (simp; omega))).trans (by simp [go_sem, *])
  have hc12_12 : w12.cell? ⟨w10.heap.size, 0, none⟩ = some (.int .i64 y1) := (hb12.cell (p := ⟨w10.heap.size, 0, none⟩) (by first | omega | (simp; done) | (simp; omega))).trans (by simp [go_sem, *])
  have hc12_13 : w12.cell? ⟨w10.heap.size, 1, none⟩ = some (.int .i64 y2) := (hb12.cell (p := ⟨w10.heap.size, 1, none⟩) (by first | omega | (simp; done) | (simp; omega))).trans (by simp [go_sem, *])
  have hc12_14 : w12.cell? ⟨w11.heap.size, 0, none⟩ = some (.int .i64 z1) := (hb12.cell (p := ⟨w11.heap.size, 0, none⟩) (by first | omega | (simp; done) | (simp; omega))).trans (by simp [go_sem, *])
  have hc12_15 : w12.cell? ⟨w11.heap.size, 1, none⟩ = some (.int .i64 z2) := (hb12.cell (p := ⟨w11.heap.size, 1, none⟩) (by first | omega | (simp; done) | (simp; omega))).trans (by simp [go_sem, *])
  clear hc11_0 hc11_1 hc11_2 hc11_3 hc11_4 hc11_5 hc11_6 hc11_7 hc11_8 hc11_9 hc11_10 hc11_11 hc11_12 hc11_13
  clear hb12
  go_wp2_with fail
  go_ret
  refine ⟨rfl, ?_⟩
  go_grown

set_option maxRecDepth 100000 in
set_option maxHeartbeats 8000000 in
theorem gm_ftttft (a b c d x1 x2 a1 a2 b1 b2 o1 o2 y1 y2 z1 z2 t1 t2 : Int) (w : World)
    (E1 : mulV a b c d = (x1, x2, false)) (E2 : conjV a b = (a1, a2, true)) (E3 : conjV c d = (b1, b2, true)) (E4 : mulV a b a1 a2 = (o1, o2, true))
    (E5 : mulV a1 a2 b1 b2 = (y1, y2, false)) (E6 : conjV x1 x2 = (z1, z2, true)) (E7 : conjV a1 a2 = (t1, t2, true)) (E8 : mayB a b = true)
    (N : decide (measV a b < 0) = false)
    (O1 : (o1 == measV a b) = true) (O2 : (o2 == 0) = true)
    (T1 : (t1 == a) = true) (T2 : (t2 == b) = true)
    : Calls Try.prog 7 #[.agg #[.int .i64 a, .int .i64 b], .agg #[.int .i64 c, .int .i64 d]] w fun e w' => e = .returned (.bool true) ∧ Below w.heap.size w w' := by
  have C1 : Hid (∀ w, Calls Try.prog 22 #[.agg #[.int .i64 a, .int .i64 b], .agg #[.int .i64 c, .int .i64 d]] w fun e w' => e = .returned (.tuple #[.agg #[.int .i64 x1, .int .i64 x2], .bool false]) ∧ Below w.heap.size w w') := by
    apply Lib.hid; intro w; have h := prod_any a b c d w; rw [E1] at h; exact h
  have C2 : Hid (∀ w, Calls Try.prog 24 #[.agg #[.int .i64 a, .int .i64 b]] w fun e w' => e = .returned (.tuple #[.agg #[.int .i64 a1, .int .i64 a2], .bool true]) ∧ Below w.heap.size w w') := by
    apply Lib.hid; intro w; have h := conj_any a b w; rw [E2] at h; exact h
  have C3 : Hid (∀ w, Calls Try.prog 24 #[.agg #[.int .i64 c, .int .i64 d]] w fun e w' => e = .returned (.tuple #[.agg #[.int .i64 b1, .int .i64 b2], .bool true]) ∧ Below w.heap.size w w') := by
    apply Lib.hid; intro w; have h := conj_any c d w; rw [E3] at h; exact h
  have C4 : Hid (∀ w, Calls Try.prog 22 #[.agg #[.int .i64 a, .int .i64 b], .agg #[.int .i64 a1, .int .i64 a2]] w fun e w' => e = .returned (.tuple #[.agg #[.int .i64 o1, .int .i64 o2], .bool true]) ∧ Below w.heap.size w w') := by
    apply Lib.hid; intro w; have h := prod_any a b a1 a2 w; rw [E4] at h; exact h
  have C5 : Hid (∀ w, Calls Try.prog 22 #[.agg #[.int .i64 a1, .int .i64 a2], .agg #[.int .i64 b1, .int .i64 b2]] w fun e w' => e = .returned (.tuple #[.agg #[.int .i64 y1, .int .i64 y2], .bool false]) ∧ Below w.heap.size w w') := by
    apply Lib.hid; intro w; have h := prod_any a1 a2 b1 b2 w; rw [E5] at h; exact h
  have C6 : Hid (∀ w, Calls Try.prog 24 #[.agg #[.int .i64 x1, .int .i64 x2]] w fun e w' => e = .returned (.tuple #[.agg #[.int .i64 z1, .int .i64 z2], .bool true]) ∧ Below w.heap.size w w') := by
    apply Lib.hid; intro w; have h := conj_any x1 x2 w; rw [E6] at h; exact h
  have C7 : Hid (∀ w, Calls Try.prog 24 #[.agg #[.int .i64 a1, .int .i64 a2]] w fun e w' => e = .returned (.tuple #[.agg #[.int .i64 t1, .int .i64 t2], .bool true]) ∧ Below w.heap.size w w') := by
    apply Lib.hid; intro w; have h := conj_any a1 a2 w; rw [E7] at h; exact h
  have C8 : Hid (∀ w, Calls Try.prog 25 #[.agg #[.int .i64 a, .int .i64 b]] w fun e w' => e = .returned (.bool true) ∧ Below w.heap.size w w') := by
    apply Lib.hid; intro w; have h := may_any a b w; rw [E8] at h; exact h
  clear E1 E2 E3 E4 E5 E6 E7 E8
  have hpe := pair_eq
  go_enter Try.func7, Try.ntmps7
  go_wp2_with fail
  refine (awake02_any _).mono ?_
  rintro e w1 ⟨rfl, hb1⟩
  have hB1 : Below w.heap.size w w1 := Below.after (by first | (go_grown; done) | (refine below_drewN ?_ _; go_grown; done)) hb1
  have hs1 : w.heap.size ≤ w1.heap.size := hB1.size
  have hz1_0 : w.heap.size < w1.heap.size := by have := hb1.size; (try simp at this); omega
  have hz1_1 : w.heap.size + 1 < w1.heap.size := by have := hb1.size; (try simp at this); omega
  have hc1_0 : w1.cell? ⟨w.heap.size, 0, none⟩ = some (.int .i64 a) := (hb1.cell (p := ⟨w.heap.size, 0, none⟩) (by first | omega | (simp; done) | (simp; omega))).trans (by simp [go_sem, *])
  have hc1_1 : w1.cell? ⟨w.heap.size, 1, none⟩ = some (.int .i64 b) := (hb1.cell (p := ⟨w.heap.size, 1, none⟩) (by first | omega | (simp; done) | (simp; omega))).trans (by simp [go_sem, *])
  have hc1_2 : w1.cell? ⟨w.heap.size + 1, 0, none⟩ = some (.int .i64 c) := (hb1.cell (p := ⟨w.heap.size + 1, 0, none⟩) (by first | omega | (simp; done) | (simp; omega))).trans (by simp [go_sem, *])
  have hc1_3 : w1.cell? ⟨w.heap.size + 1, 1, none⟩ = some (.int .i64 d) := (hb1.cell (p := ⟨w.heap.size + 1, 1, none⟩) (by first | omega | (simp; done) | (simp; omega))).trans (by simp [go_sem, *])
  clear hb1
  go_wp2_with fail
  refine (C1.out _).mono ?_
  rintro e w2 ⟨rfl, hb2⟩
  have hB2 : Below w.heap.size w w2 := Below.after (by first | (go_grown; done) | (refine below_drewN ?_ _; go_grown; done)) hb2
  have hs2 : w.heap.size ≤ w2.heap.size := hB2.size
  have hz2_0 : w.heap.size < w2.heap.size := by have := hb2.size; (try simp at this); omega
  have hz2_1 : w.heap.size + 1 < w2.heap.size := by have := hb2.size; (try simp at this); omega
  have hc2_0 : w2.cell? ⟨w.heap.size, 0, none⟩ = some (.int .i64 a) := (hb2.cell (p := ⟨w.heap.size, 0, none⟩) (by first | omega | (simp; done) | (simp; omega))).trans (by simp [go_sem, *])
  have hc2_1 : w2.cell? ⟨w.heap.size, 1, none⟩ = some (.int .i64 b) := (hb2.cell (p := ⟨w.heap.size, 1, none⟩) (by first | omega | (simp; done) | (simp; omega))).trans (by simp [go_sem, *])
  have hc2_2 : w2.cell? ⟨w.heap.size + 1, 0, none⟩ = some (.int .i64 c) := (hb2.cell (p := ⟨w.heap.size + 1, 0, none⟩) (by first | omega | (simp; done) | (simp; omega))).trans (by simp [go_sem, *])
  have hc2_3 : w2.cell? ⟨w.heap.size + 1, 1, none⟩ = some (.int .i64 d) := (hb2.cell (p := ⟨w.heap.size + 1, 1, none⟩) (by first | omega | (simp; done) | (simp; omega))).trans (by simp [go_sem, *])
  clear hc1_0 hc1_1 hc1_2 hc1_3
  clear hb2
  go_wp2_with fail
  go_quiet (fail)
  go_wp2_with fail
  refine (C2.out _).mono ?_
  rintro e w3 ⟨rfl, hb3⟩
  have hB3 : Below w.heap.size w w3 := Below.after (by first | (go_grown; done) | (refine below_drewN ?_ _; go_grown; done)) hb3
  have hs3 : w.heap.size ≤ w3.heap.size := hB3.size
  have hz3_0 : w.heap.size < w3.heap.size := by have := hb3.size; (try simp at this); omega
  have hz3_1 : w.heap.size + 1 < w3.heap.size := by have := hb3.size; (try simp at this); omega
  have hz3_2 : w2.heap.size < w3.heap.size := by have := hb3.size; (try simp at this); omega
  have hc3_0 : w3.cell? ⟨w.heap.size, 0, none⟩ = some (.int .i64 a) := (hb3.cell (p := ⟨w.heap.size, 0, none⟩) (by first | omega | (simp; done) | (simp; omega))).trans (by simp [go_sem, *])
  have hc3_1 : w3.cell? ⟨w.heap.size, 1, none⟩ = some (.int .i64 b) := (hb3.cell (p := ⟨w.heap.size, 1, none⟩) (by first | omega | (simp; done) | (simp; omega))).trans (by simp [go_sem, *])
  have hc3_2 : w3.cell? ⟨w.heap.size + 1, 0, none⟩ = some (.int .i64 c) := (hb3.cell (p := ⟨w.heap.size + 1, 0, none⟩) (by first | omega | (simp; done) | (simp; omega))).trans (by simp [go_sem, *])
  have hc3_3 : w3.cell? ⟨w.heap.size + 1, 1, none⟩ = some (.int .i64 d) := (hb3.cell (p := ⟨w.heap.size + 1, 1, none⟩) (by first | omega | (simp; done) | (simp; omega))).trans (by simp [go_sem, *])
  have hc3_4 : w3.cell? ⟨w2.heap.size, 0, none⟩ = some (.int .i64 x1) := (hb3.cell (p := ⟨w2.heap.size, 0, none⟩) (by first | omega | (simp; done) | (simp; omega))).trans (by simp [go_sem, *])
  have hc3_5 : w3.cell? ⟨w2.heap.size, 1, none⟩ = some (.int .i64 x2) := (hb3.cell (p := ⟨w2.heap.size, 1, none⟩) (by first | omega | (simp; done) | (simp; omega))).trans (by simp [go_sem, *])
  clear hc2_0 hc2_1 hc2_2 hc2_3
  clear hb3
  go_wp2_with fail
  refine (C3.out _).mono ?_
  rintro e w4 ⟨rfl, hb4⟩
  have hB4 : Below w.heap.size w w4 := Below.after (by first | (go_grown; done) | (refine below_drewN ?_ _; go_grown; done)) hb4
  have hs4 : w.heap.size ≤ w4.heap.size := hB4.size
  have hz4_0 : w.heap.size < w4.heap.size := by have := hb4.size; (try simp at this); omega
  have hz4_1 : w.heap.size + 1 < w4.heap.size := by have := hb4.size; (try simp at this); omega
  have hz4_2 : w2.heap.size < w4.heap.size := by have := hb4.size; (try simp at this); omega
  have hz4_3 : w3.heap.size < w4.heap.size := by have := hb4.size; (try simp at this); omega
  have hc4_0 : w4.cell? ⟨w.heap.size, 0, none⟩ = some (.int .i64 a) := (hb4.cell (p := ⟨w.heap.size, 0, none⟩) (by first | omega | (simp; done) | (simp; omega))).trans (by simp [go_sem, *])
  have hc4_1 : w4.cell? ⟨w.heap.size, 1, none⟩ = some (.int .i64 b) := (hb4.cell (p := ⟨w.heap.size, 1, none⟩) (by first | omega | (simp; done) | (simp; omega))).trans (by simp [go_sem, *])
  have hc4_2 : w4.cell? ⟨w.heap.size + 1, 0, none⟩ = some (.int .i64 c) := (hb4.cell (p := ⟨w.heap.size + 1, 0, none⟩) (by first | omega | (simp; done) | (simp; omega))).trans (by simp [go_sem, *])
  have hc4_3 : w4.cell? ⟨w.heap.size + 1, 1, none⟩ = some (.int .i64 d) := (hb4.cell (p := ⟨w.heap.size + 1, 1, none⟩) (by first | omega | (simp; done) | (simp; omega))).trans (by simp [go_sem, *])
  have hc4_4 : w4.cell? ⟨w2.heap.size, 0, none⟩ = some (.int .i64 x1) := (hb4.cell (p := ⟨w2.heap.size, 0, none⟩) (by first | omega | (simp; done) | (simp; omega))).trans (by simp [go_sem, *])
  have hc4_5 : w4.cell? ⟨w2.heap.size, 1, none⟩ = some (.int .i64 x2) := (hb4.cell (p := ⟨w2.heap.size, 1, none⟩) (by first | omega | (simp; done) | (simp; omega))).trans (by simp [go_sem, *])
  have hc4_6 : w4.cell? ⟨w3.heap.size, 0, none⟩ = some (.int .i64 a1) := (hb4.cell (p := ⟨w3.heap.size, 0, none⟩) (by first | omega | (simp; done) | (simp; omega))).trans (by simp [go_sem, *])
  have hc4_7 : w4.cell? ⟨w3.heap.size, 1, none⟩ = some (.int .i64 a2) := (hb4.cell (p := ⟨w3.heap.size, 1, none⟩) (by first | omega | (simp; done) | (simp; omega))).trans (by simp [go_sem, *])
  clear hc3_0 hc3_1 hc3_2 hc3_3 hc3_4 hc3_5
  clear hb4
  go_wp2_with fail
  refine (C8.out _).mono ?_
  rintro e w5 ⟨rfl, hb5⟩
  have hB5 : Below w.heap.size w w5 := Below.after (by first | (go_grown; done) | (refine below_drewN ?_ _; go_grown; done)) hb5
  have hs5 : w.heap.size ≤ w5.heap.size := hB5.size
  have hz5_0 : w.heap.size < w5.heap.size := by have := hb5.size; (try simp at this); omega
  have hz5_1 : w.heap.size + 1 < w5.heap.size := by have := hb5.size; (try simp at this); omega
  have hz5_2 : w2.heap.size < w5.heap.size := by have := hb5.size; (try simp at this); omega
  have hz5_3 : w3.heap.size < w5.heap.size := by have := hb5.size; (try simp at this); omega
  have hz5_4 : w4.heap.size < w5.heap.size := by have := hb5.size; (try simp at this); omega
  have hc5_0 : w5.cell? ⟨w.heap.size, 0, none⟩ = some (.int .i64 a) := (hb5.cell (p := ⟨w.heap.size, 0, none⟩) (by first | omega | (simp; done) | (simp; omega))).trans (by simp [go_sem, *])
  have hc5_1 : w5.cell? ⟨w.heap.size, 1, none⟩ = some (.int .i64 b) := (hb5.cell (p := ⟨w.heap.size, 1, none⟩) (by first | omega | (simp; done) | (simp; omega))).trans (by simp [go_sem, *])
  have hc5_2 : w5.cell? ⟨w.heap.size + 1, 0, none⟩ = some (.int .i64 c) := (hb5.cell (p := ⟨w.heap.size + 1, 0, none⟩) (by first | omega | (simp; done) | (simp; omega))).trans (by simp [go_sem, *])
  have hc5_3 : w5.cell? ⟨w.heap.size + 1, 1, none⟩ = some (.int .i64 d) := (hb5.cell (p := ⟨w.heap.size + 1, 1, none⟩) (by first | omega | (simp; done) | (simp; omega))).trans (by simp [go_sem, *])
  have hc5_4 : w5.cell? ⟨w2.heap.size, 0, none⟩ = some (.int .i64 x1) := (hb5.cell (p := ⟨w2.heap.size, 0, none⟩) (by first | omega | (simp; done) | (simp; omega))).trans (by simp [go_sem, *])
  have hc5_5 : w5.cell? ⟨w2.heap.size, 1, none⟩ = some (.int .i64 x2) := (hb5.cell (p := ⟨w2.heap.size, 1, none⟩) (by first | omega | (simp; done) | (simp; omega))).trans (by simp [go_sem, *])
  have hc5_6 : w5.cell? ⟨w3.heap.size, 0, none⟩ = some (.int .i64 a1) := (hb5.cell (p := ⟨w3.heap.size, 0, none⟩) (by first | omega | (simp; done) | (simp; omega))).trans (by simp [go_sem, *])
  have hc5_7 : w5.cell? ⟨w3.heap.size, 1, none⟩ = some (.int .i64 a2) := (hb5.cell (p := ⟨w3.heap.size, 1, none⟩) (by first | omega | (simp; done) | (simp; omega))).trans (by simp [go_sem, *])
  have hc5_8 : w5.cell? ⟨w4.heap.size, 0, none⟩ = some (.int .i64 b1) := (hb5.cell (p := ⟨w4.heap.size, 0, none⟩) (by first | omega | (simp; done) | (simp; omega))).trans (by simp [go_sem, *])
  have hc5_9 : w5.cell? ⟨w4.heap.size, 1, none⟩ = some (.int .i64 b2) := (hb5.cell (p := ⟨w4.heap.size, 1, none⟩) (by first | omega | (simp; done) | (simp; omega))).trans (by simp [go_sem, *])
  clear hc4_0 hc4_1 hc4_2 hc4_3 hc4_4 hc4_5 hc4_6 hc4_7
  clear hb5
  go_wp2_with fail
  refine (measure_any _ _ _).mono ?_
  rintro e w6 ⟨rfl, hb6⟩
  have hB6 : Below w.heap.size w w6 := Below.after (by first | (go_grown; done) | (refine below_drewN ?_ _; go_grown; done)) hb6
  have hs6 : w.heap.size ≤ w6.heap.size := hB6.size
  have hz6_0 : w.heap.size < w6.heap.size := by have := hb6.size; (try simp at this); omega
  have hz6_1 : w.heap.size + 1 < w6.heap.size := by have := hb6.size; (try simp at this); omega
  have hz6_2 : w2.heap.size < w6.heap.size := by have := hb6.size; (try simp at this); omega
  have hz6_3 : w3.heap.size < w6.heap.size := by have := hb6.size; (try simp at this); omega
  have hz6_4 : w4.heap.size < w6.heap.size := by have := hb6.size; (try simp at this); omega
  have hc6_0 : w6.cell? ⟨w.heap.size, 0, none⟩ = some (.int .i64 a) := (hb6.cell (p := ⟨w.heap.size, 0, none⟩) (by first | omega | (simp; done) | (simp; omega))).trans (by simp [go_sem, *])
  have hc6_1 : w6.cell? ⟨w.heap.size, 1, none⟩ = some (.int .i64 b) := (hb6.cell (p := ⟨w.heap.size, 1, none⟩) (by first | omega | (simp; done) | (simp; omega))).trans (by simp [go_sem, *])
  have hc6_2 : w6.cell? ⟨w.heap.size + 1, 0, none⟩ = some (.int .i64 c) := (hb6.cell (p := ⟨w.heap.size + 1, 0, none⟩) (by first | omega | (simp; done) | (simp; omega))).trans (by simp [go_sem, *])
  have hc6_3 : w6.cell? ⟨w.heap.size + 1, 1, none⟩ = some (.int .i64 d) := (hb6.cell (p := ⟨w.heap.size + 1, 1, none⟩) (by first | omega | (simp; done) | (simp; omega))).trans (by simp [go_sem, *])
  have hc6_4 : w6.cell? ⟨w2.heap.size, 0, none⟩ = some (.int .i64 x1) := (hb6.cell (p := ⟨w2.heap.size, 0, none⟩) (by first | omega | (simp; done) | (simp; omega))).trans (by simp [go_sem, *])
  have hc6_5 : w6.cell? ⟨w2.heap.size, 1, none⟩ = some (.int .i64 x2) := (hb6.cell (p := ⟨w2.heap.size, 1, none⟩) (by first | omega | (simp; done) | (simp; omega))).trans (by simp [go_sem, *])
  have hc6_6 : w6.cell? ⟨w3.heap.size, 0, none⟩ = some (.int .i64 a1) := (hb6.cell (p := ⟨w3.heap.size, 0, none⟩) (by first | omega | (simp; done) | (simp; omega))).trans (by simp [go_sem, *])
  have hc6_7 : w6.cell? ⟨w3.heap.size, 1, none⟩ = some (.int .i64 a2) := (hb6.cell (p := ⟨w3.heap.size, 1, none⟩) (by first | omega | (simp; done) | (simp; omega))).trans (by simp [go_sem, *])
  have hc6_8 : w6.cell? ⟨w4.heap.size, 0, none⟩ = some (.int .i64 b1) := (hb6.cell (p := ⟨w4.heap.size, 0, none⟩) (by first | omega | (simp; done) | (simp; omega))).trans (by simp [go_sem, *])
  have hc6_9 : w6.cell? ⟨w4.heap.size, 1, none⟩ = some (.int .i64 b2) := (hb6.cell (p := ⟨w4.heap.size, 1, none⟩) (by first | omega | (simp; done) | (simp; omega))).trans (by simp [go_sem, *])
  clear hc5_0 hc5_1 hc5_2 hc5_3 hc5_4 hc5_5 hc5_6 hc5_7 hc5_8 hc5_9
  clear hb6
  go_wp2_with fail
  refine (C4.out _).mono ?_
  rintro e w7 ⟨rfl, hb7⟩
  have hB7 : Below w.heap.size w w7 := Below.after (by first | (go_grown; done) | (refine below_drewN ?_ _; go_grown; done)) hb7
  have hs7 : w.heap.size ≤ w7.heap.size := hB7.size
  have hz7_0 : w.heap.size < w7.heap.size := by have := hb7.size; (try simp at this); omega
  have hz7_1 : w.heap.size + 1 < w7.heap.size := by have := hb7.size; (try simp at this); omega
  have hz7_2 : w2.heap.size < w7.heap.size := by have := hb7.size; (try simp at this); omega
  have hz7_3 : w3.heap.size < w7.heap.size := by have := hb7.size; (try simp at this); omega
  have hz7_4 : w4.heap.size < w7.heap.size := by have := hb7.size; (try simp at this); omega
  have hc7_0 : w7.cell? ⟨w.heap.size, 0, none⟩ = some (.int .i64 a) := (hb7.cell (p := ⟨w.heap.size, 0, none⟩) (by first | omega | (simp; done) | (simp; omega))).trans (by simp [go_sem, *])
  have hc7_1 : w7.cell? ⟨w.heap.size, 1, none⟩ = some (.int .i64 b) := (hb7.cell (p := ⟨w.heap.size, 1, none⟩) (by first | omega | (simp; done) | (simp; omega))).trans (by simp [go_sem, *])
  have hc7_2 : w7.cell? ⟨w.heap.size + 1, 0, none⟩ = some (.int .i64 c) := (hb7.cell (p := ⟨w.heap.size + 1, 0, none⟩) (by first | omega | (simp; done) | (simp; omega))).trans (by simp [go_sem, *])
  have hc7_3 : w7.cell? ⟨w.heap.size + 1, 1, none⟩ = some (.int .i64 d) := (hb7.cell (p := ⟨w.heap.size + 1, 1, none⟩) (by first | omega | (simp; done) | (simp; omega))).trans (by simp [go_sem, *])
  have hc7_4 : w7.cell? ⟨w2.heap.size, 0, none⟩ = some (.int .i64 x1) := (hb7.cell (p := ⟨w2.heap.size, 0, none⟩) (by first | omega | (simp; done) | (simp; omega))).trans (by simp [go_sem, *])
  have hc7_5 : w7.cell? ⟨w2.heap.size, 1, none⟩ = some (.int .i64 x2) := (hb7.cell (p := ⟨w2.heap.size, 1, none⟩) (by first | omega | (simp; done) | (simp; omega))).trans (by simp [go_sem, *])
  have hc7_6 : w7.cell? ⟨w3.heap.size, 0, none⟩ = some (.int .i64 a1) := (hb7.cell (p := ⟨w3.heap.size, 0, none⟩) (by first | omega | (simp; done) | (simp; omega))).trans (by simp [go_sem, *])
  have hc7_7 : w7.cell? ⟨w3.heap.size, 1, none⟩ = some (.int .i64 a2) := (hb7.cell (p := ⟨w3.heap.size, 1, none⟩) (by first | omega | (simp; done) | (simp; omega))).trans (by simp [go_sem, *])
  have hc7_8 : w7.cell? ⟨w4.heap.size, 0, none⟩ = some (.int .i64 b1) := (hb7.cell (p := ⟨w4.heap.size, 0, none⟩) (by first | omega | (simp; done) | (simp; omega))).trans (by simp [go_sem, *])
  have hc7_9 : w7.cell? ⟨w4.heap.size, 1, none⟩ = some (.int .i64 b2) := (hb7.cell (p := ⟨w4.heap.size, 1, none⟩) (by first | omega | (simp; done) | (simp; omega))).trans (by simp [go_sem, *])
  clear hc6_0 hc6_1 hc6_2 hc6_3 hc6_4 hc6_5 hc6_6 hc6_7 hc6_8 hc6_9
  clear hb7
  go_wp2_with fail
  obtain ⟨w8, hw8⟩ : ∃ w8, w8 = w7.alloc (.cells #[.int .i64 o1, .int .i64 o2] 52) := ⟨_, rfl⟩
  rw [← hw8]
  have hb8 : Below w7.heap.size w7 w8 := by rw [hw8]; exact (Below.refl _ _).alloc (Nat.le_refl _) _
  have hB8 : Below w.heap.size w w8 := Below.after hB7 hb8
  have hs8 : w.heap.size ≤ w8.heap.size := hB8.size
  have hn8 : w7.heap.size < w8.heap.size := by rw [hw8]; simp
  have hz8_0 : w.heap.size < w8.heap.size := by omega
  have hz8_1 : w.heap.size + 1 < w8.heap.size := by omega
  have hz8_2 : w2.heap.size < w8.heap.size := by omega
  have hz8_3 : w3.heap.size < w8.heap.size := by omega
  have hz8_4 : w4.heap.size < w8.heap.size := by omega
  have hz8_5 : w7.heap.size < w8.heap.size := by omega
  have hc8_0 : w8.cell? ⟨w.heap.size, 0, none⟩ = some (.int .i64 a) := by rw [hw8]; simp [go_sem, *]
  have hc8_1 : w8.cell? ⟨w.heap.size, 1, none⟩ = some (.int .i64 b) := by rw [hw8]; simp [go_sem, *]
  have hc8_2 : w8.cell? ⟨w.heap.size + 1, 0, none⟩ = some (.int .i64 c) := by rw [hw8]; simp [go_sem, *]
  have hc8_3 : w8.cell? ⟨w.heap.size + 1, 1, none⟩ = some (.int .i64 d) := by rw [hw8]; simp [go_sem, *]
  have hc8_4 : w8.cell? ⟨w2.heap.size, 0, none⟩ = some (.int .i64 x1) := by rw [hw8]; simp [go_sem, *]
  have hc8_5 : w8.cell? ⟨w2.heap.size, 1, none⟩ = some (.int .i64 x2) := by rw [hw8]; simp [go_sem, *]
  have hc8_6 : w8.cell? ⟨w3.heap.size, 0, none⟩ = some (.int .i64 a1) := by rw [hw8]; simp [go_sem, *]
  have hc8_7 : w8.cell? ⟨w3.heap.size, 1, none⟩ = some (.int .i64 a2) := by rw [hw8]; simp [go_sem, *]
  have hc8_8 : w8.cell? ⟨w4.heap.size, 0, none⟩ = some (.int .i64 b1) := by rw [hw8]; simp [go_sem, *]
  have hc8_9 : w8.cell? ⟨w4.heap.size, 1, none⟩ = some (.int .i64 b2) := by rw [hw8]; simp [go_sem, *]
  have hc8_10 : w8.cell? ⟨w7.heap.size, 0, none⟩ = some (.int .i64 o1) := by rw [hw8]; simp [go_sem, *]
  have hc8_11 : w8.cell? ⟨w7.heap.size, 1, none⟩ = some (.int .i64 o2) := by rw [hw8]; simp [go_sem, *]
  clear hc7_0 hc7_1 hc7_2 hc7_3 hc7_4 hc7_5 hc7_6 hc7_7 hc7_8 hc7_9 hw8 hb8
  have key8 : ∀ W, Below w8.heap.size w8 W → W.cell? ⟨w.heap.size, 0, none⟩ = some (.int .i64 a) ∧ W.cell? ⟨w.heap.size, 1, none⟩ = some (.int .i64 b) ∧ W.cell? ⟨w.heap.size + 1, 0, none⟩ = some (.int .i64 c) ∧ W.cell? ⟨w.heap.size + 1, 1, none⟩ = some (.int .i64 d) ∧ W.cell? ⟨w2.heap.size, 0, none⟩ = some (.int .i64 x1) ∧ W.cell? ⟨w2.heap.size, 1, none⟩ = some (.int .i64 x2) ∧ W.cell? ⟨w3.heap.size, 0, none⟩ = some (.int .i64 a1) ∧ W.cell? ⟨w3.heap.size, 1, none⟩ = some (.int .i64 a2) ∧ W.cell? ⟨w4.heap.size, 0, none⟩ = some (.int .i64 b1) ∧ W.cell? ⟨w4.heap.size, 1, none⟩ = some (.int .i64 b2) ∧ W.cell? ⟨w7.heap.size, 0, none⟩ = some (.int .i64 o1) ∧ W.cell? ⟨w7.heap.size, 1, none⟩ = some (.int .i64 o2) ∧ Below w8.heap.size w8 W :=
    fun W hS => ⟨(hS.cell (by first | omega | (simp; done) | (simp; omega))).trans (by assumption), (hS.cell (by first | omega | (simp; done) | (simp; omega))).trans (by assumption), (hS.cell (by first | omega | (simp; done) | (simp; omega))).trans (by assumption), (hS.cell (by first | omega | (simp; done) | (simp; omega))).trans (by assumption), (hS.cell (by first | omega | (simp; done) | (simp; omega))).trans (by assumption), (hS.cell (by first | omega | (simp; done) | (simp; omega))).trans (by assumption), (hS.cell (by first | omega | (simp; done) | (simp; omega))).trans (by assumption), (hS.cell (by first | omega | (simp; done) | (simp; omega))).trans (by assumption), (hS.cell (by first | omega | (simp; done) | (simp; omega))).trans (by assumption), (hS.cell (by first | omega | (simp; done) | (simp; omega))).trans (by assumption), (hS.cell (by first | omega | (simp; done) | (simp; omega))).trans (by assumption), (hS.cell (by first | omega | (simp; done) | (simp; omega))).trans (by assumption), hS⟩
  have KEY8 := Lib.hid key8
  clear key8
  go_region_held3 (fun w' => w'.cell? ⟨w.heap.size, 0, none⟩ = some (.int .i64 a) ∧ w'.cell? ⟨w.heap.size, 1, none⟩ = some (.int .i64 b) ∧ w'.cell? ⟨w.heap.size + 1, 0, none⟩ = some (.int .i64 c) ∧ w'.cell? ⟨w.heap.size + 1, 1, none⟩ = some (.int .i64 d) ∧ w'.cell? ⟨w2.heap.size, 0, none⟩ = some (.int .i64 x1) ∧ w'.cell? ⟨w2.heap.size, 1, none⟩ = some (.int .i64 x2) ∧ w'.cell? ⟨w3.heap.size, 0, none⟩ = some (.int .i64 a1) ∧ w'.cell? ⟨w3.heap.size, 1, none⟩ = some (.int .i64 a2) ∧ w'.cell? ⟨w4.heap.size, 0, none⟩ = some (.int .i64 b1) ∧ w'.cell? ⟨w4.heap.size, 1, none⟩ = some (.int .i64 b2) ∧ w'.cell? ⟨w7.heap.size, 0, none⟩ = some (.int .i64 o1) ∧ w'.cell? ⟨w7.heap.size, 1, none⟩ = some (.int .i64 o2) ∧ Below w8.heap.size w8 w')
    ((refine KEY8.out _ ?_; first
        | (with_reducible exact Below.drew (Below.refl _ _))
        | (with_reducible refine Below.after ?_ hb; go_split_ands; with_reducible assumption)
        | fail))
    (first
      | (go_at_call 23; refine (measure_any _ _ _).mono ?_; rintro e w9 ⟨rfl, hb⟩)
      | fail)
  have hb9 : Below w8.heap.size w8 w9 := by go_split_ands; with_reducible assumption
  have hB9 : Below w.heap.size w w9 := Below.after hB8 hb9
  have hs9 : w.heap.size ≤ w9.heap.size := hB9.size
  have hz9_0 : w.heap.size < w9.heap.size := by have := hb9.size; (try simp at this); omega
  have hz9_1 : w.heap.size + 1 < w9.heap.size := by have := hb9.size; (try simp at this); omega
  have hz9_2 : w2.heap.size < w9.heap.size := by have := hb9.size; (try simp at this); omega
  have hz9_3 : w3.heap.size < w9.heap.size := by have := hb9.size; (try simp at this); omega
  have hz9_4 : w4.heap.size < w9.heap.size := by have := hb9.size; (try simp at this); omega
  have hz9_5 : w7.heap.size < w9.heap.size := by have := hb9.size; (try simp at this); omega
  have hc9_0 : w9.cell? ⟨w.heap.size, 0, none⟩ = some (.int .i64 a) := (hb9.cell (p := ⟨w.heap.size, 0, none⟩) (by first | omega | (simp; done) | (simp; omega))).trans (by simp [go_sem, *])
  have hc9_1 : w9.cell? ⟨w.heap.size, 1, none⟩ = some (.int .i64 b) := (hb9.cell (p := ⟨w.heap.size, 1, none⟩) (by first | omega | (simp; done) | (simp; omega))).trans (by simp [go_sem, *])
  have hc9_2 : w9.cell? ⟨w.heap.size + 1, 0, none⟩ = some (.int .i64 c) := (hb9.cell (p := ⟨w.heap.size + 1, 0, none⟩) (by first | omega | (simp; done) | (simp; omega))).trans (by simp [go_sem, *])
  have hc9_3 : w9.cell? ⟨w.heap.size + 1, 1, none⟩ = some (.int .i64 d) := (hb9.cell (p := ⟨w.heap.size + 1, 1, none⟩) (by first | omega | (simp; done) | (simp; omega))).trans (by simp [go_sem, *])
  have hc9_4 : w9.cell? ⟨w2.heap.size, 0, none⟩ = some (.int .i64 x1) := (hb9.cell (p := ⟨w2.heap.size, 0, none⟩) (by first | omega | (simp; done) | (simp; omega))).trans (by simp [go_sem, *])
  have hc9_5 : w9.cell? ⟨w2.heap.size, 1, none⟩ = some (.int .i64 x2) := (hb9.cell (p := ⟨w2.heap.size, 1, none⟩) (by first | omega | (simp; done) | (simp; omega))).trans (by simp [go_sem, *])
  have hc9_6 : w9.cell? ⟨w3.heap.size, 0, none⟩ = some (.int .i64 a1) := (hb9.cell (p := ⟨w3.heap.size, 0, none⟩) (by first | omega | (simp; done) | (simp; omega))).trans (by simp [go_sem, *])
  have hc9_7 : w9.cell? ⟨w3.heap.size, 1, none⟩ = some (.int .i64 a2) := (hb9.cell (p := ⟨w3.heap.size, 1, none⟩) (by first | omega | (simp; done) | (simp; omega))).trans (by simp [go_sem, *])
  have hc9_8 : w9.cell? ⟨w4.heap.size, 0, none⟩ = some (.int .i64 b1) := (hb9.cell (p := ⟨w4.heap.size, 0, none⟩) (by first | omega | (simp; done) | (simp; omega))).trans (by simp [go_sem, *])
  have hc9_9 : w9.cell? ⟨w4.heap.size, 1, none⟩ = some (.int .i64 b2) := (hb9.cell (p := ⟨w4.heap.size, 1, none⟩) (by first | omega | (simp; done) | (simp; omega))).trans (by simp [go_sem, *])
  have hc9_10 : w9.cell? ⟨w7.heap.size, 0, none⟩ = some (.int .i64 o1) := (hb9.cell (p := ⟨w7.heap.size, 0, none⟩) (by first | omega | (simp; done) | (simp; omega))).trans (by simp [go_sem, *])
  have hc9_11 : w9.cell? ⟨w7.heap.size, 1, none⟩ = some (.int .i64 o2) := (hb9.cell (p := ⟨w7.heap.size, 1, none⟩) (by first | omega | (simp; done) | (simp; omega))).trans (by simp [go_sem, *])
  clear hc8_0 hc8_1 hc8_2 hc8_3 hc8_4 hc8_5 hc8_6 hc8_7 hc8_8 hc8_9 hc8_10 hc8_11
  clear hb9
  go_wp2_with fail
  refine (C5.out _).mono ?_
  rintro e w10 ⟨rfl, hb10⟩
  have hB10 : Below w.heap.size w w10 := Below.after (by first | (go_grown; done) | (refine below_drewN ?_ _; go_grown; done)) hb10
  have hs10 : w.heap.size ≤ w10.heap.size := hB10.size
  have hz10_0 : w.heap.size < w10.heap.size := by have := hb10.size; (try simp at this); omega
  have hz10_1 : w.heap.size + 1 < w10.heap.size := by have := hb10.size; (try simp at this); omega
  have hz10_2 : w2.heap.size < w10.heap.size := by have := hb10.size; (try simp at this); omega
  have hz10_3 : w3.heap.size < w10.heap.size := by have := hb10.size; (try simp at this); omega
  have hz10_4 : w4.heap.size < w10.heap.size := by have := hb10.size; (try simp at this); omega
  have hz10_5 : w7.heap.size < w10.heap.size := by have := hb10.size; (try simp at this); omega
  have hc10_0 : w10.cell? ⟨w.heap.size, 0, none⟩ = some (.int .i64 a) := (hb10.cell (p := ⟨w.heap.size, 0, none⟩) (by first | omega | (simp; done) | (simp; omega))).trans (by simp [go_sem, *])
  have hc10_1 : w10.cell? ⟨w.heap.size, 1, none⟩ = some (.int .i64 b) := (hb10.cell (p := ⟨w.heap.size, 1, none⟩) (by first | omega | (simp; done) | (simp; omega))).trans (by simp [go_sem, *])
  have hc10_2 : w10.cell? ⟨w.heap.size + 1, 0, none⟩ = some (.int .i64 c) := (hb10.cell (p := ⟨w.heap.size + 1, 0, none⟩) (by first | omega | (simp; done) | (simp; omega))).trans (by simp [go_sem, *])
  have hc10_3 : w10.cell? ⟨w.heap.size + 1, 1, none⟩ = some (.int .i64 d) := (hb10.cell (p := ⟨w.heap.size + 1, 1, none⟩) (by first | omega | (simp; done) | (simp; omega))).trans (by simp [go_sem, *])
  have hc10_4 : w10.cell? ⟨w2.heap.size, 0, none⟩ = some (.int .i64 x1) := (hb10.cell (p := ⟨w2.heap.size, 0, none⟩) (by first | omega | (simp; done) | (simp; omega))).trans (by simp [go_sem, *])
  have hc10_5 : w10.cell? ⟨w2.heap.size, 1, none⟩ = some (.int .i64 x2) := (hb10.cell (p := ⟨w2.heap.size, 1, none⟩) (by first | omega | (simp; done) | (simp; omega))).trans (by simp [go_sem, *])
  have hc10_6 : w10.cell? ⟨w3.heap.size, 0, none⟩ = some (.int .i64 a1) := (hb10.cell (p := ⟨w3.heap.size, 0, none⟩) (by first | omega | (simp; done) | (simp; omega))).trans (by simp [go_sem, *])
  have hc10_7 : w10.cell? ⟨w3.heap.size, 1, none⟩ = some (.int .i64 a2) := (hb10.cell (p := ⟨w3.heap.size, 1, none⟩) (by first | omega | (simp; done) | (simp; omega))).trans (by simp [go_sem, *])
  have hc10_8 : w10.cell? ⟨w4.heap.size, 0, none⟩ = some (.int .i64 b1) := (hb10.cell (p := ⟨w4.heap.size, 0, none⟩) (by first | omega | (simp; done) | (simp; omega))).trans (by simp [go_sem, *])
  have hc10_9 : w10.cell? ⟨w4.heap.size, 1, none⟩ = some (.int .i64 b2) := (hb10.cell (p := ⟨w4.heap.size, 1, none⟩) (by first | omega | (simp; done) | (simp; omega))).trans (by simp [go_sem, *])
  have hc10_10 : w10.cell? ⟨w7.heap.size, 0, none⟩ = some (.int .i64 o1) := (hb10.cell (p := ⟨w7.heap.size, 0, none⟩) (by first | omega | (simp; done) | (simp; omega))).trans (by simp [go_sem, *])
  have hc10_11 : w10.cell? ⟨w7.heap.size, 1, none⟩ = some (.int .i64 o2) := (hb10.cell (p := ⟨w7.heap.size, 1, none⟩) (by first | omega | (simp; done) | (simp; omega))).trans (by simp [go_sem, *])
  clear hc9_0 hc9_1 hc9_2 hc9_3 hc9_4 hc9_5 hc9_6 hc9_7 hc9_8 hc9_9 hc9_10 hc9_11
  clear hb10
  go_wp2_with fail
  refine (C6.out _).mono ?_
  rintro e w11 ⟨rfl, hb11⟩
  have hB11 : Below w.heap.size w w11 := Below.after (by first | (go_grown; done) | (refine below_drewN ?_ _; go_grown; done)) hb11
  have hs11 : w.heap.size ≤ w11.heap.size := hB11.size
  have hz11_0 : w.heap.size < w11.heap.size := by have := hb11.size; (try simp at this); omega
  have hz11_1 : w.heap.size + 1 < w11.heap.size := by have := hb11.size; (try simp at this); omega
  have hz11_2 : w2.heap.size < w11.heap.size := by have := hb11.size; (try simp at this); omega
  have hz11_3 : w3.heap.size < w11.heap.size := by have := hb11.size; (try simp at this); omega
  have hz11_4 : w4.heap.size < w11.heap.size := by have := hb11.size; (try simp at this); omega
  have hz11_5 : w7.heap.size < w11.heap.size := by have := hb11.size; (try simp at this); omega
  have hz11_6 : w10.heap.size < w11.heap.size := by have := hb11.size; (try simp at this); omega
  have hc11_0 : w11.cell? ⟨w.heap.size, 0, none⟩ = some (.int .i64 a) := (hb11.cell (p := ⟨w.heap.size, 0, none⟩) (by first | omega | (simp; done) | (simp; omega))).trans (by simp [go_sem, *])
  have hc11_1 : w11.cell? ⟨w.heap.size, 1, none⟩ = some (.int .i64 b) := (hb11.cell (p := ⟨w.heap.size, 1, none⟩) (by first | omega | (simp; done) | (simp; omega))).trans (by simp [go_sem, *])
  have hc11_2 : w11.cell? ⟨w.heap.size + 1, 0, none⟩ = some (.int .i64 c) := (hb11.cell (p := ⟨w.heap.size + 1, 0, none⟩) (by first | omega | (simp; done) | (simp; omega))).trans (by simp [go_sem, *])
  have hc11_3 : w11.cell? ⟨w.heap.size + 1, 1, none⟩ = some (.int .i64 d) := (hb11.cell (p := ⟨w.heap.size + 1, 1, none⟩) (by first | omega | (simp; done) | (simp; omega))).trans (by simp [go_sem, *])
  have hc11_4 : w11.cell? ⟨w2.heap.size, 0, none⟩ = some (.int .i64 x1) := (hb11.cell (p := ⟨w2.heap.size, 0, none⟩) (by first | omega | (simp; done) | (simp; omega))).trans (by simp [go_sem, *])
  have hc11_5 : w11.cell? ⟨w2.heap.size, 1, none⟩ = some (.int .i64 x2) := (hb11.cell (p := ⟨w2.heap.size, 1, none⟩) (by first | omega | (simp; done) | (simp; omega))).trans (by simp [go_sem, *])
  have hc11_6 : w11.cell? ⟨w3.heap.size, 0, none⟩ = some (.int .i64 a1) := (hb11.cell (p := ⟨w3.heap.size, 0, none⟩) (by first | omega | (simp; done) | (simp; omega))).trans (by simp [go_sem, *])
  have hc11_7 : w11.cell? ⟨w3.heap.size, 1, none⟩ = some (.int .i64 a2) := (hb11.cell (p := ⟨w3.heap.size, 1, none⟩) (by first | omega | (simp; done) | (simp; omega))).trans (by simp [go_sem, *])
  have hc11_8 : w11.cell? ⟨w4.heap.size, 0, none⟩ = some (.int .i64 b1) := (hb11.cell (p := ⟨w4.heap.size, 0, none⟩) (by first | omega | (simp; done) | (simp; omega))).trans (by simp [go_sem, *])
  have hc11_9 : w11.cell? ⟨w4.heap.size, 1, none⟩ = some (.int .i64 b2) := (hb11.cell (p := ⟨w4.heap.size, 1, none⟩) (by first | omega | (simp; done) | (simp; omega))).trans (by simp [go_sem, *])
  have hc11_10 : w11.cell? ⟨w7.heap.size, 0, none⟩ = some (.int .i64 o1) := (hb11.cell (p := ⟨w7.heap.size, 0, none⟩) (by first | omega | (simp; done) | (simp; omega))).trans (by simp [go_sem, *])
  have hc11_11 : w11.cell? ⟨w7.heap.size, 1, none⟩ = some (.int .i64 o2) := (hb11.cell (p := ⟨w7.heap.size, 1, none⟩) (by first | omega | (simp; done) | (simp; omega))).trans (by simp [go_sem, *])
  have hc11_12 : w11.cell? ⟨w10.heap.size, 0, none⟩ = some (.int .i64 y1) := (hb11.cell (p := ⟨w10.heap.size, 0, none⟩) (by first | omega | (simp; done) | (simp; omega))).trans (by simp [go_sem, *])
  have hc11_13 : w11.cell? ⟨w10.heap.size, 1, none⟩ = some (.int .i64 y2) := (hb11.cell (p := ⟨w10.heap.size, 1, none⟩) (by first | omega | (simp; done) | (simp; omega))).trans (by simp [go_sem, *])
  clear hc10_0 hc10_1 hc10_2 hc10_3 hc10_4 hc10_5 hc10_6 hc10_7 hc10_8 hc10_9 hc10_10 hc10_11
  clear hb11
  go_wp2_with fail
  refine (C7.out _).mono ?_
  rintro e w12 ⟨rfl, hb12⟩
  have hB12 : Below w.heap.size w w12 := Below.after (by first | (go_grown; done) | (refine below_drewN ?_ _; go_grown; done)) hb12
  have hs12 : w.heap.size ≤ w12.heap.size := hB12.size
  have hz12_0 : w.heap.size < w12.heap.size := by have := hb12.size; (try simp at this); omega
  have hz12_1 : w.heap.size + 1 < w12.heap.size := by have := hb12.size; (try simp at this); omega
  have hz12_2 : w2.heap.size < w12.heap.size := by have := hb12.size; (try simp at this); omega
  have hz12_3 : w3.heap.size < w12.heap.size := by have := hb12.size; (try simp at this); omega
  have hz12_4 : w4.heap.size < w12.heap.size := by have := hb12.size; (try simp at this); omega
  have hz12_5 : w7.heap.size < w12.heap.size := by have := hb12.size; (try simp at this); omega
  have hz12_6 : w10.heap.size < w12.heap.size := by have := hb12.size; (try simp at this); omega
  have hz12_7 : w11.heap.size < w12.heap.size := by have := hb12.size; (try simp at this); omega
  have hc12_0 : w12.cell? ⟨w.heap.size, 0, none⟩ = some (.int .i64 a) := (hb12.cell (p := ⟨w.heap.size, 0, none⟩) (by first | omega | (simp; done) | (simp; omega))).trans (by simp [go_sem, *])
  have hc12_1 : w12.cell? ⟨w.heap.size, 1, none⟩ = some (.int .i64 b) := (hb12.cell (p := ⟨w.heap.size, 1, none⟩) (by first | omega | (simp; done) | (simp; omega))).trans (by simp [go_sem, *])
  have hc12_2 : w12.cell? ⟨w.heap.size + 1, 0, none⟩ = some (.int .i64 c) := (hb12.cell (p := ⟨w.heap.size + 1, 0, none⟩) (by first | omega | (simp; done) | (simp; omega))).trans (by simp [go_sem, *])
  have hc12_3 : w12.cell? ⟨w.heap.size + 1, 1, none⟩ = some (.int .i64 d) := (hb12.cell (p := ⟨w.heap.size + 1, 1, none⟩) (by first | omega | (simp; done) | (simp; omega))).trans (by simp [go_sem, *])
  have hc12_4 : w12.cell? ⟨w2.heap.size, 0, none⟩ = some (.int .i64 x1) := (hb12.cell (p := ⟨w2.heap.size, 0, none⟩) (by first | omega | (simp; done) | (simp; omega))).trans (by simp [go_sem, *])
  have hc12_5 : w12.cell? ⟨w2.heap.size, 1, none⟩ = some (.int .i64 x2) := (hb12.cell (p := ⟨w2.heap.size, 1, none⟩) (by first | omega | (simp; done) | (simp; omega))).trans (by simp [go_sem, *])
  have hc12_6 : w12.cell? ⟨w3.heap.size, 0, none⟩ = some (.int .i64 a1) := (hb12.cell (p := ⟨w3.heap.size, 0, none⟩) (by first | omega | (simp; done) | (simp; omega))).trans (by simp [go_sem, *])
  have hc12_7 : w12.cell? ⟨w3.heap.size, 1, none⟩ = some (.int .i64 a2) := (hb12.cell (p := ⟨w3.heap.size, 1, none⟩) (by first | omega | (simp; done) | (simp; omega))).trans (by simp [go_sem, *])
  have hc12_8 : w12.cell? ⟨w4.heap.size, 0, none⟩ = some (.int .i64 b1) := (hb12.cell (p := ⟨w4.heap.size, 0, none⟩) (by first | omega | (simp; done) | (simp; omega))).trans (by simp [go_sem, *])
  have hc12_9 : w12.cell? ⟨w4.heap.size, 1, none⟩ = some (.int .i64 b2) := (hb12.cell (p := ⟨w4.heap.size, 1, none⟩) (by first | omega | (simp; done) | (simp; omega))).trans (by simp [go_sem, *])
  have hc12_10 : w12.cell? ⟨w7.heap.size, 0, none⟩ = some (.int .i64 o1) := (hb12.cell (p := ⟨w7.heap.size, 0, none⟩) (by first | omega | (simp; done) | (simp; omega))).trans (by simp [go_sem, *])
  have hc12_11 : w12.cell? ⟨w7.heap.size, 1, none⟩ = some (.int .i64 o2) := (hb12.cell (p := ⟨w7.heap.size, 1, none⟩) (by first | omega | (simp; done) | (simp; omega))).trans (by simp [go_sem, *])
  have hc12_12 : w12.cell? ⟨w10.heap.size, 0, none⟩ = some (.int .i64 y1) := (hb12.cell (p := ⟨w10.heap.size, 0, none⟩) (by first | omega | (simp; done) | (simp; omega))).trans (by simp [go_sem, *])
  have hc12_13 : w12.cell? ⟨w10.heap.size, 1, none⟩ = some (.int .i64 y2) := (hb12.cell (p := ⟨w10.heap.size, 1, none⟩) (by first | omega | (simp; done) | (simp; omega))).trans (by simp [go_sem, *])
  have hc12_14 : w12.cell? ⟨w11.heap.size, 0, none⟩ = some (.int .i64 z1) := (hb12.cell (p := ⟨w11.heap.size, 0, none⟩) (by first | omega | (simp; done) | (simp; omega))).trans (by simp [go_sem, *])
  have hc12_15 : w12.cell? ⟨w11.heap.size, 1, none⟩ = some (.int .i64 z2) := (hb12.cell (p := ⟨w11.heap.size, 1, none⟩) (by first | omega | (simp; done) | (simp; omega))).trans (by simp [go_sem, *])
  clear hc11_0 hc11_1 hc11_2 hc11_3 hc11_4 hc11_5 hc11_6 hc11_7 hc11_8 hc11_9 hc11_10 hc11_11 hc11_12 hc11_13
  clear hb12
  go_wp2_with fail
  go_ret
  refine ⟨rfl, ?_⟩
  go_grown

set_option maxRecDepth 100000 in
set_option maxHeartbeats 8000000 in
theorem gm_fttfft (a b c d x1 x2 a1 a2 b1 b2 o1 o2 y1 y2 z1 z2 t1 t2 : Int) (w : World)
    (E1 : mulV a b c d = (x1, x2, false)) (E2 : conjV a b = (a1, a2, true)) (E3 : conjV c d = (b1, b2, true)) (E4 : mulV a b a1 a2 = (o1, o2, false))
    (E5 : mulV a1 a2 b1 b2 = (y1, y2, false)) (E6 : conjV x1 x2 = (z1, z2, true)) (E7 : conjV a1 a2 = (t1, t2, true)) (E8 : mayB a b = true)
    (N : decide (measV a b < 0) = false)
    (T1 : (t1 == a) = true) (T2 : (t2 == b) = true)
    : Calls Try.prog 7 #[.agg #[.int .i64 a, .int .i64 b], .agg #[.int .i64 c, .int .i64 d]] w fun e w' => e = .returned (.bool true) ∧ Below w.heap.size w w' := by
  have C1 : Hid (∀ w, Calls Try.prog 22 #[.agg #[.int .i64 a, .int .i64 b], .agg #[.int .i64 c, .int .i64 d]] w fun e w' => e = .returned (.tuple #[.agg #[.int .i64 x1, .int .i64 x2], .bool false]) ∧ Below w.heap.size w w') := by
    apply Lib.hid; intro w; have h := prod_any a b c d w; rw [E1] at h; exact h
  have C2 : Hid (∀ w, Calls Try.prog 24 #[.agg #[.int .i64 a, .int .i64 b]] w fun e w' => e = .returned (.tuple #[.agg #[.int .i64 a1, .int .i64 a2], .bool true]) ∧ Below w.heap.size w w') := by
    apply Lib.hid; intro w; have h := conj_any a b w; rw [E2] at h; exact h
  have C3 : Hid (∀ w, Calls Try.prog 24 #[.agg #[.int .i64 c, .int .i64 d]] w fun e w' => e = .returned (.tuple #[.agg #[.int .i64 b1, .int .i64 b2], .bool true]) ∧ Below w.heap.size w w') := by
    apply Lib.hid; intro w; have h := conj_any c d w; rw [E3] at h; exact h
  have C4 : Hid (∀ w, Calls Try.prog 22 #[.agg #[.int .i64 a, .int .i64 b], .agg #[.int .i64 a1, .int .i64 a2]] w fun e w' => e = .returned (.tuple #[.agg #[.int .i64 o1, .int .i64 o2], .bool false]) ∧ Below w.heap.size w w') := by
    apply Lib.hid; intro w; have h := prod_any a b a1 a2 w; rw [E4] at h; exact h
  have C5 : Hid (∀ w, Calls Try.prog 22 #[.agg #[.int .i64 a1, .int .i64 a2], .agg #[.int .i64 b1, .int .i64 b2]] w fun e w' => e = .returned (.tuple #[.agg #[.int .i64 y1, .int .i64 y2], .bool false]) ∧ Below w.heap.size w w') := by
    apply Lib.hid; intro w; have h := prod_any a1 a2 b1 b2 w; rw [E5] at h; exact h
  have C6 : Hid (∀ w, Calls Try.prog 24 #[.agg #[.int .i64 x1, .int .i64 x2]] w fun e w' => e = .returned (.tuple #[.agg #[.int .i64 z1, .int .i64 z2], .bool true]) ∧ Below w.heap.size w w') := by
    apply Lib.hid; intro w; have h := conj_any x1 x2 w; rw [E6] at h; exact h
  have C7 : Hid (∀ w, Calls Try.prog 24 #[.agg #[.int .i64 a1, .int .i64 a2]] w fun e w' => e = .returned (.tuple #[.agg #[.int .i64 t1, .int .i64 t2], .bool true]) ∧ Below w.heap.size w w') := by
    apply Lib.hid; intro w; have h := conj_any a1 a2 w; rw [E7] at h; exact h
  have C8 : Hid (∀ w, Calls Try.prog 25 #[.agg #[.int .i64 a, .int .i64 b]] w fun e w' => e = .returned (.bool true) ∧ Below w.heap.size w w') := by
    apply Lib.hid; intro w; have h := may_any a b w; rw [E8] at h; exact h
  clear E1 E2 E3 E4 E5 E6 E7 E8
  have hpe := pair_eq
  go_enter Try.func7, Try.ntmps7
  go_wp2_with fail
  refine (awake02_any _).mono ?_
  rintro e w1 ⟨rfl, hb1⟩
  have hB1 : Below w.heap.size w w1 := Below.after (by first | (go_grown; done) | (refine below_drewN ?_ _; go_grown; done)) hb1
  have hs1 : w.heap.size ≤ w1.heap.size := hB1.size
  have hz1_0 : w.heap.size < w1.heap.size := by have := hb1.size; (try simp at this); omega
  have hz1_1 : w.heap.size + 1 < w1.heap.size := by have := hb1.size; (try simp at this); omega
  have hc1_0 : w1.cell? ⟨w.heap.size, 0, none⟩ = some (.int .i64 a) := (hb1.cell (p := ⟨w.heap.size, 0, none⟩) (by first | omega | (simp; done) | (simp; omega))).trans (by simp [go_sem, *])
  have hc1_1 : w1.cell? ⟨w.heap.size, 1, none⟩ = some (.int .i64 b) := (hb1.cell (p := ⟨w.heap.size, 1, none⟩) (by first | omega | (simp; done) | (simp; omega))).trans (by simp [go_sem, *])
  have hc1_2 : w1.cell? ⟨w.heap.size + 1, 0, none⟩ = some (.int .i64 c) := (hb1.cell (p := ⟨w.heap.size + 1, 0, none⟩) (by first | omega | (simp; done) | (simp; omega))).trans (by simp [go_sem, *])
  have hc1_3 : w1.cell? ⟨w.heap.size + 1, 1, none⟩ = some (.int .i64 d) := (hb1.cell (p := ⟨w.heap.size + 1, 1, none⟩) (by first | omega | (simp; done) | (simp; omega))).trans (by simp [go_sem, *])
  clear hb1
  go_wp2_with fail
  refine (C1.out _).mono ?_
  rintro e w2 ⟨rfl, hb2⟩
  have hB2 : Below w.heap.size w w2 := Below.after (by first | (go_grown; done) | (refine below_drewN ?_ _; go_grown; done)) hb2
  have hs2 : w.heap.size ≤ w2.heap.size := hB2.size
  have hz2_0 : w.heap.size < w2.heap.size := by have := hb2.size; (try simp at this); omega
  have hz2_1 : w.heap.size + 1 < w2.heap.size := by have := hb2.size; (try simp at this); omega
  have hc2_0 : w2.cell? ⟨w.heap.size, 0, none⟩ = some (.int .i64 a) := (hb2.cell (p := ⟨w.heap.size, 0, none⟩) (by first | omega | (simp; done) | (simp; omega))).trans (by simp [go_sem, *])
  have hc2_1 : w2.cell? ⟨w.heap.size, 1, none⟩ = some (.int .i64 b) := (hb2.cell (p := ⟨w.heap.size, 1, none⟩) (by first | omega | (simp; done) | (simp; omega))).trans (by simp [go_sem, *])
  have hc2_2 : w2.cell? ⟨w.heap.size + 1, 0, none⟩ = some (.int .i64 c) := (hb2.cell (p := ⟨w.heap.size + 1, 0, none⟩) (by first | omega | (simp; done) | (simp; omega))).trans (by simp [go_sem, *])
  have hc2_3 : w2.cell? ⟨w.heap.size + 1, 1, none⟩ = some (.int .i64 d) := (hb2.cell (p := ⟨w.heap.size + 1, 1, none⟩) (by first | omega | (simp; done) | (simp; omega))).trans (by simp [go_sem, *])
  clear hc1_0 hc1_1 hc1_2 hc1_3
  clear hb2
  go_wp2_with fail
  go_quiet (fail)
  go_wp2_with fail
  refine (C2.out _).mono ?_
  rintro e w3 ⟨rfl, hb3⟩
  have hB3 : Below w.heap.size w w3 := Below.after (by first | (go_grown; done) | (refine below_drewN ?_ _; go_grown; done)) hb3
  have hs3 : w.heap.size ≤ w3.heap.size := hB3.size
  have hz3_0 : w.heap.size < w3.heap.size := by have := hb3.size; (try simp at this); omega
  have hz3_1 : w.heap.size + 1 < w3.heap.size := by have := hb3.size; (try simp at this); omega
  have hz3_2 : w2.heap.size < w3.heap.size := by have := hb3.size; (try simp at this); omega
  have hc3_0 : w3.cell? ⟨w.heap.size, 0, none⟩ = some (.int .i64 a) := (hb3.cell (p := ⟨w.heap.size, 0, none⟩) (by first | omega | (simp; done) | (simp; omega))).trans (by simp [go_sem, *])
  have hc3_1 : w3.cell? ⟨w.heap.size, 1, none⟩ = some (.int .i64 b) := (hb3.cell (p := ⟨w.heap.size, 1, none⟩) (by first | omega | (simp; done) | (simp; omega))).trans (by simp [go_sem, *])
  have hc3_2 : w3.cell? ⟨w.heap.size + 1, 0, none⟩ = some (.int .i64 c) := (hb3.cell (p := ⟨w.heap.size + 1, 0, none⟩) (by first | omega | (simp; done) | (simp; omega))).trans (by simp [go_sem, *])
  have hc3_3 : w3.cell? ⟨w.heap.size + 1, 1, none⟩ = some (.int .i64 d) := (hb3.cell (p := ⟨w.heap.size + 1, 1, none⟩) (by first | omega | (simp; done) | (simp; omega))).trans (by simp [go_sem, *])
  have hc3_4 : w3.cell? ⟨w2.heap.size, 0, none⟩ = some (.int .i64 x1) := (hb3.cell (p := ⟨w2.heap.size, 0, none⟩) (by first | omega | (simp; done) | (simp; omega))).trans (by simp [go_sem, *])
  have hc3_5 : w3.cell? ⟨w2.heap.size, 1, none⟩ = some (.int .i64 x2) := (hb3.cell (p := ⟨w2.heap.size, 1, none⟩) (by first | omega | (simp; done) | (simp; omega))).trans (by simp [go_sem, *])
  clear hc2_0 hc2_1 hc2_2 hc2_3
  clear hb3
  go_wp2_with fail
  refine (C3.out _).mono ?_
  rintro e w4 ⟨rfl, hb4⟩
  have hB4 : Below w.heap.size w w4 := Below.after (by first | (go_grown; done) | (refine below_drewN ?_ _; go_grown; done)) hb4
  have hs4 : w.heap.size ≤ w4.heap.size := hB4.size
  have hz4_0 : w.heap.size < w4.heap.size := by have := hb4.size; (try simp at this); omega
  have hz4_1 : w.heap.size + 1 < w4.heap.size := by have := hb4.size; (try simp at this); omega
  have hz4_2 : w2.heap.size < w4.heap.size := by have := hb4.size; (try simp at this); omega
  have hz4_3 : w3.heap.size < w4.heap.size := by have := hb4.size; (try simp at this); omega
  have hc4_0 : w4.cell? ⟨w.heap.size, 0, none⟩ = some (.int .i64 a) := (hb4.cell (p := ⟨w.heap.size, 0, none⟩) (by first | omega | (simp; done) | (simp; omega))).trans (by simp [go_sem, *])
  have hc4_1 : w4.cell? ⟨w.heap.size, 1, none⟩ = some (.int .i64 b) := (hb4.cell (p := ⟨w.heap.size, 1, none⟩) (by first | omega | (simp; done) | (simp; omega))).trans (by simp [go_sem, *])
  have hc4_2 : w4.cell? ⟨w.heap.size + 1, 0, none⟩ = some (.int .i64 c) := (hb4.cell (p := ⟨w.heap.size + 1, 0, none⟩) (by first | omega | (simp; done) | (simp; omega))).trans (by simp [go_sem, *])
  have hc4_3 : w4.cell? ⟨w.heap.size + 1, 1, none⟩ = some (.int .i64 d) := (hb4.cell (p := ⟨w.heap.size + 1, 1, none⟩) (by first | omega | (simp; done) | (simp; omega))).trans (by simp [go_sem, *])
  have hc4_4 : w4.cell? ⟨w2.heap.size, 0, none⟩ = some (.int .i64 x1) := (hb4.cell (p := ⟨w2.heap.size, 0, none⟩) (by first | omega | (simp; done) | (simp; omega))).trans (by simp [go_sem, *])
  have hc4_5 : w4.cell? ⟨w2.heap.size, 1, none⟩ = some (.int .i64 x2) := (hb4.cell (p := ⟨w2.heap.size, 1, none⟩) (by first | omega | (simp; done) | (simp; omega))).trans (by simp [go_sem, *])
  have hc4_6 : w4.cell? ⟨w3.heap.size, 0, none⟩ = some (.int .i64 a1) := (hb4.cell (p := ⟨w3.heap.size, 0, none⟩) (by first | omega | (simp; done) | (simp; omega))).trans (by simp [go_sem, *])
  have hc4_7 : w4.cell? ⟨w3.heap.size, 1, none⟩ = some (.int .i64 a2) := (hb4.cell (p := ⟨w3.heap.size, 1, none⟩) (by first | omega | (simp; done) | (simp; omega))).trans (by simp [go_sem, *])
  clear hc3_0 hc3_1 hc3_2 hc3_3 hc3_4 hc3_5
  clear hb4
  go_wp2_with fail
  refine (C8.out _).mono ?_
  rintro e w5 ⟨rfl, hb5⟩
  have hB5 : Below w.heap.size w w5 := Below.after (by first | (go_grown; done) | (refine below_drewN ?_ _; go_grown; done)) hb5
  have hs5 : w.heap.size ≤ w5.heap.size := hB5.size
  have hz5_0 : w.heap.size < w5.heap.size := by have := hb5.size; (try simp at this); omega
  have hz5_1 : w.heap.size + 1 < w5.heap.size := by have := hb5.size; (try simp at this); omega
  have hz5_2 : w2.heap.size < w5.heap.size := by have := hb5.size; (try simp at this); omega
  have hz5_3 : w3.heap.size < w5.heap.size := by have := hb5.size; (try simp at this); omega
  have hz5_4 : w4.heap.size < w5.heap.size := by have := hb5.size; (try simp at this); omega
  have hc5_0 : w5.cell? ⟨w.heap.size, 0, none⟩ = some (.int .i64 a) := (hb5.cell (p := ⟨w.heap.size, 0, none⟩) (by first | omega | (simp; done) | (simp; omega))).trans (by simp [go_sem, *])
  have hc5_1 : w5.cell? ⟨w.heap.size, 1, none⟩ = some (.int .i64 b) := (hb5.cell (p := ⟨w.heap.size, 1, none⟩) (by first | omega | (simp; done) | (simp; omega))).trans (by simp [go_sem, *])
  have hc5_2 : w5.cell? ⟨w.heap.size + 1, 0, none⟩ = some (.int .i64 c) := (hb5.cell (p := ⟨w.heap.size + 1, 0, none⟩) (by first | omega | (simp; done) | (simp; omega))).trans (by simp [go_sem, *])
  have hc5_3 : w5.cell? ⟨w.heap.size + 1, 1, none⟩ = some (.int .i64 d) := (hb5.cell (p := ⟨w.heap.size + 1, 1, none⟩) (by first | omega | (simp; done) | (simp; omega))).trans (by simp [go_sem, *])
  have hc5_4 : w5.cell? ⟨w2.heap.size, 0, none⟩ = some (.int .i64 x1) := (hb5.cell (p := ⟨w2.heap.size, 0, none⟩) (by first | omega | (simp; done) | (simp; omega))).trans (by simp [go_sem, *])
  have hc5_5 : w5.cell? ⟨w2.heap.size, 1, none⟩ = some (.int .i64 x2) := (hb5.cell (p := ⟨w2.heap.size, 1, none⟩) (by first | omega | (simp; done) | (simp; omega))).trans (by simp [go_sem, *])
  have hc5_6 : w5.cell? ⟨w3.heap.size, 0, none⟩ = some (.int .i64 a1) := (hb5.cell (p := ⟨w3.heap.size, 0, none⟩) (by first | omega | (simp; done) | (simp; omega))).trans (by simp [go_sem, *])
  have hc5_7 : w5.cell? ⟨w3.heap.size, 1, none⟩ = some (.int .i64 a2) := (hb5.cell (p := ⟨w3.heap.size, 1, none⟩) (by first | omega | (simp; done) | (simp; omega))).trans (by simp [go_sem, *])
  have hc5_8 : w5.cell? ⟨w4.heap.size, 0, none⟩ = some (.int .i64 b1) := (hb5.cell (p := ⟨w4.heap.size, 0, none⟩) (by first | omega | (simp; done) | (simp; omega))).trans (by simp [go_sem, *])
  have hc5_9 : w5.cell? ⟨w4.heap.size, 1, none⟩ = some (.int .i64 b2) := (hb5.cell (p := ⟨w4.heap.size, 1, none⟩) (by first | omega | (simp; done) | (simp; omega))).trans (by simp [go_sem, *])
  clear hc4_0 hc4_1 hc4_2 hc4_3 hc4_4 hc4_5 hc4_6 hc4_7
  clear hb5
  go_wp2_with fail
  refine (measure_any _ _ _).mono ?_
  rintro e w6 ⟨rfl, hb6⟩
  have hB6 : Below w.heap.size w w6 := Below.after (by first | (go_grown; done) | (refine below_drewN ?_ _; go_grown; done)) hb6
  have hs6 : w.heap.size ≤ w6.heap.size := hB6.size
  have hz6_0 : w.heap.size < w6.heap.size := by have := hb6.size; (try simp at this); omega
  have hz6_1 : w.heap.size + 1 < w6.heap.size := by have := hb6.size; (try simp at this); omega
  have hz6_2 : w2.heap.size < w6.heap.size := by have := hb6.size; (try simp at this); omega
  have hz6_3 : w3.heap.size < w6.heap.size := by have := hb6.size; (try simp at this); omega
  have hz6_4 : w4.heap.size < w6.heap.size := by have := hb6.size; (try simp at this); omega
  have hc6_0 : w6.cell? ⟨w.heap.size, 0, none⟩ = some (.int .i64 a) := (hb6.cell (p := ⟨w.heap.size, 0, none⟩) (by first | omega | (simp; done) | (simp; omega))).trans (by simp [go_sem, *])
  have hc6_1 : w6.cell? ⟨w.heap.size, 1, none⟩ = some (.int .i64 b) := (hb6.cell (p := ⟨w.heap.size, 1, none⟩) (by first | omega | (simp; done) | (simp; omega))).trans (by simp [go_sem, *])
  have hc6_2 : w6.cell? ⟨w.heap.size + 1, 0, none⟩ = some (.int .i64 c) := (hb6.cell (p := ⟨w.heap.size + 1, 0, none⟩) (by first | omega | (simp; done) | (simp; omega))).trans (by simp [go_sem, *])
  have hc6_3 : w6.cell? ⟨w.heap.size + 1, 1, none⟩ = some (.int .i64 d) := (hb6.cell (p := ⟨w.heap.size + 1, 1, none⟩) (by first | omega | (simp; done) | (simp; omega))).trans (by simp [go_sem, *])
  have hc6_4 : w6.cell? ⟨w2.heap.size, 0, none⟩ = some (.int .i64 x1) := (hb6.cell (p := ⟨w2.heap.size, 0, none⟩) (by first | omega | (simp; done) | (simp; omega))).trans (by simp [go_sem, *])
  have hc6_5 : w6.cell? ⟨w2.heap.size, 1, none⟩ = some (.int .i64 x2) := (hb6.cell (p := ⟨w2.heap.size, 1, none⟩) (by first | omega | (simp; done) | (simp; omega))).trans (by simp [go_sem, *])
  have hc6_6 : w6.cell? ⟨w3.heap.size, 0, none⟩ = some (.int .i64 a1) := (hb6.cell (p := ⟨w3.heap.size, 0, none⟩) (by first | omega | (simp; done) | (simp; omega))).trans (by simp [go_sem, *])
  have hc6_7 : w6.cell? ⟨w3.heap.size, 1, none⟩ = some (.int .i64 a2) := (hb6.cell (p := ⟨w3.heap.size, 1, none⟩) (by first | omega | (simp; done) | (simp; omega))).trans (by simp [go_sem, *])
  have hc6_8 : w6.cell? ⟨w4.heap.size, 0, none⟩ = some (.int .i64 b1) := (hb6.cell (p := ⟨w4.heap.size, 0, none⟩) (by first | omega | (simp; done) | (simp; omega))).trans (by simp [go_sem, *])
  have hc6_9 : w6.cell? ⟨w4.heap.size, 1, none⟩ = some (.int .i64 b2) := (hb6.cell (p := ⟨w4.heap.size, 1, none⟩) (by first | omega | (simp; done) | (simp; omega))).trans (by simp [go_sem, *])
  clear hc5_0 hc5_1 hc5_2 hc5_3 hc5_4 hc5_5 hc5_6 hc5_7 hc5_8 hc5_9
  clear hb6
  go_wp2_with fail
  refine (C4.out _).mono ?_
  rintro e w7 ⟨rfl, hb7⟩
  have hB7 : Below w.heap.size w w7 := Below.after (by first | (go_grown; done) | (refine below_drewN ?_ _; go_grown; done)) hb7
  have hs7 : w.heap.size ≤ w7.heap.size := hB7.size
  have hz7_0 : w.heap.size < w7.heap.size := by have := hb7.size; (try simp at this); omega
  have hz7_1 : w.heap.size + 1 < w7.heap.size := by have := hb7.size; (try simp at this); omega
  have hz7_2 : w2.heap.size < w7.heap.size := by have := hb7.size; (try simp at this); omega
  have hz7_3 : w3.heap.size < w7.heap.size := by have := hb7.size; (try simp at this); omega
  have hz7_4 : w4.heap.size < w7.heap.size := by have := hb7.size; (try simp at this); omega
  have hc7_0 : w7.cell? ⟨w.heap.size, 0, none⟩ = some (.int .i64 a) := (hb7.cell (p := ⟨w.heap.size, 0, none⟩) (by first | omega | (simp; done) | (simp; omega))).trans (by simp [go_sem, *])
  have hc7_1 : w7.cell? ⟨w.heap.size, 1, none⟩ = some (.int .i64 b) := (hb7.cell (p := ⟨w.heap.size, 1, none⟩) (by first | omega | (simp; done) | (simp; omega))).trans (by simp [go_sem, *])
  have hc7_2 : w7.cell? ⟨w.heap.size + 1, 0, none⟩ = some (.int .i64 c) := (hb7.cell (p := ⟨w.heap.size + 1, 0, none⟩) (by first | omega | (simp; done) | (simp; omega))).trans (by simp [go_sem, *])
  have hc7_3 : w7.cell? ⟨w.heap.size + 1, 1, none⟩ = some (.int .i64 d) := (hb7.cell (p := ⟨w.heap.size + 1, 1, none⟩) (by first | omega | (simp; done) | (simp; omega))).trans (by simp [go_sem, *])
  have hc7_4 : w7.cell? ⟨w2.heap.size, 0, none⟩ = some (.int .i64 x1) := (hb7.cell (p := ⟨w2.heap.size, 0, none⟩) (by first | omega | (simp; done) | (simp; omega))).trans (by simp [go_sem, *])
  have hc7_5 : w7.cell? ⟨w2.heap.size, 1, none⟩ = some (.int .i64 x2) := (hb7.cell (p := ⟨w2.heap.size, 1, none⟩) (by first | omega | (simp; done) | (simp; omega))).trans (by simp [go_sem, *])
  have hc7_6 : w7.cell? ⟨w3.heap.size, 0, none⟩ = some (.int .i64 a1) := (hb7.cell (p := ⟨w3.heap.size, 0, none⟩) (by first | omega | (simp; done) | (simp; omega))).trans (by simp [go_sem, *])
  have hc7_7 : w7.cell? ⟨w3.heap.size, 1, none⟩ = some (.int .i64 a2) := (hb7.cell (p := ⟨w3.heap.size, 1, none⟩) (by first | omega | (simp; done) | (simp; omega))).trans (by simp [go_sem, *])
  have hc7_8 : w7.cell? ⟨w4.heap.size, 0, none⟩ = some (.int .i64 b1) := (hb7.cell (p := ⟨w4.heap.size, 0, none⟩) (by first | omega | (simp; done) | (simp; omega))).trans (by simp [go_sem, *])
  have hc7_9 : w7.cell? ⟨w4.heap.size, 1, none⟩ = some (.int .i64 b2) := (hb7.cell (p := ⟨w4.heap.size, 1, none⟩) (by first | omega | (simp; done) | (simp; omega))).trans (by simp [go_sem, *])
  clear hc6_0 hc6_1 hc6_2 hc6_3 hc6_4 hc6_5 hc6_6 hc6_7 hc6_8 hc6_9
  clear hb7
  go_wp2_with fail
  go_quiet (fail)
  go_wp2_with fail
  refine (C5.out _).mono ?_
  rintro e w8 ⟨rfl, hb8⟩
  have hB8 : Below w.heap.size w w8 := Below.after (by first | (go_grown; done) | (refine below_drewN ?_ _; go_grown; done)) hb8
  have hs8 : w.heap.size ≤ w8.heap.size := hB8.size
  have hz8_0 : w.heap.size < w8.heap.size := by have := hb8.size; (try simp at this); omega
  have hz8_1 : w.heap.size + 1 < w8.heap.size := by have := hb8.size; (try simp at this); omega
  have hz8_2 : w2.heap.size < w8.heap.size := by have := hb8.size; (try simp at this); omega
  have hz8_3 : w3.heap.size < w8.heap.size := by have := hb8.size; (try simp at this); omega
  have hz8_4 : w4.heap.size < w8.heap.size := by have := hb8.size; (try simp at this); omega
  have hz8_5 : w7.heap.size < w8.heap.size := by have := hb8.size; (try simp at this); omega
  have hc8_0 : w8.cell? ⟨w.heap.size, 0, none⟩ = some (.int .i64 a) := (hb8.cell (p := ⟨w.heap.size, 0, none⟩) (by first | omega | (simp; done) | (simp; omega))).trans (by simp [go_sem, *])
  have hc8_1 : w8.cell? ⟨w.heap.size, 1, none⟩ = some (.int .i64 b) := (hb8.cell (p := ⟨w.heap.size, 1, none⟩) (by first | omega | (simp; done) | (simp; omega))).trans (by simp [go_sem, *])
  have hc8_2 : w8.cell? ⟨w.heap.size + 1, 0, none⟩ = some (.int .i64 c) := (hb8.cell (p := ⟨w.heap.size + 1, 0, none⟩) (by first | omega | (simp; done) | (simp; omega))).trans (by simp [go_sem, *])
  have hc8_3 : w8.cell? ⟨w.heap.size + 1, 1, none⟩ = some (.int .i64 d) := (hb8.cell (p := ⟨w.heap.size + 1, 1, none⟩) (by first | omega | (simp; done) | (simp; omega))).trans (by simp [go_sem, *])
  have hc8_4 : w8.cell? ⟨w2.heap.size, 0, none⟩ = some (.int .i64 x1) := (hb8.cell (p := ⟨w2.heap.size, 0, none⟩) (by first | omega | (simp; done) | (simp; omega))).trans (by simp [go_sem, *])
  have hc8_5 : w8.cell? ⟨w2.heap.size, 1, none⟩ = some (.int .i64 x2) := (hb8.cell (p := ⟨w2.heap.size, 1, none⟩) (by first | omega | (simp; done) | (simp; omega))).trans (by simp [go_sem, *])
  have hc8_6 : w8.cell? ⟨w3.heap.size, 0, none⟩ = some (.int .i64 a1) := (hb8.cell (p := ⟨w3.heap.size, 0, none⟩) (by first | omega | (simp; done) | (simp; omega))).trans (by simp [go_sem, *])
  have hc8_7 : w8.cell? ⟨w3.heap.size, 1, none⟩ = some (.int .i64 a2) := (hb8.cell (p := ⟨w3.heap.size, 1, none⟩) (by first | omega | (simp; done) | (simp; omega))).trans (by simp [go_sem, *])
  have hc8_8 : w8.cell? ⟨w4.heap.size, 0, none⟩ = some (.int .i64 b1) := (hb8.cell (p := ⟨w4.heap.size, 0, none⟩) (by first | omega | (simp; done) | (simp; omega))).trans (by simp [go_sem, *])
  have hc8_9 : w8.cell? ⟨w4.heap.size, 1, none⟩ = some (.int .i64 b2) := (hb8.cell (p := ⟨w4.heap.size, 1, none⟩) (by first | omega | (simp; done) | (simp; omega))).trans (by simp [go_sem, *])
  have hc8_10 : w8.cell? ⟨w7.heap.size, 0, none⟩ = some (.int .i64 o1) := (hb8.cell (p := ⟨w7.heap.size, 0, none⟩) (by first | omega | (simp; done) | (simp; omega))).trans (by simp [go_sem, *])
  have hc8_11 : w8.cell? ⟨w7.heap.size, 1, none⟩ = some (.int .i64 o2) := (hb8.cell (p := ⟨w7.heap.size, 1, none⟩) (by first | omega | (simp; done) | (simp; omega))).trans (by simp [go_sem, *])
  clear hc7_0 hc7_1 hc7_2 hc7_3 hc7_4 hc7_5 hc7_6 hc7_7 hc7_8 hc7_9
  clear hb8
  go_wp2_with fail
  refine (C6.out _).mono ?_
  rintro e w9 ⟨rfl, hb9⟩
  have hB9 : Below w.heap.size w w9 := Below.after (by first | (go_grown; done) | (refine below_drewN ?_ _; go_grown; done)) hb9
  have hs9 : w.heap.size ≤ w9.heap.size := hB9.size
  have hz9_0 : w.heap.size < w9.heap.size := by have := hb9.size; (try simp at this); omega
  have hz9_1 : w.heap.size + 1 < w9.heap.size := by have := hb9.size; (try simp at this); omega
  have hz9_2 : w2.heap.size < w9.heap.size := by have := hb9.size; (try simp at this); omega
  have hz9_3 : w3.heap.size < w9.heap.size := by have := hb9.size; (try simp at this); omega
  have hz9_4 : w4.heap.size < w9.heap.size := by have := hb9.size; (try simp at this); omega
  have hz9_5 : w7.heap.size < w9.heap.size := by have := hb9.size; (try simp at this); omega
  have hz9_6 : w8.heap.size < w9.heap.size := by have := hb9.size; (try simp at this); omega
  have hc9_0 : w9.cell? ⟨w.heap.size, 0, none⟩ = some (.int .i64 a) := (hb9.cell (p := ⟨w.heap.size, 0, none⟩) (by first | omega | (simp; done) | (simp; omega))).trans (by simp [go_sem, *])
  have hc9_1 : w9.cell? ⟨w.heap.size, 1, none⟩ = some (.int .i64 b) := (hb9.cell (p := ⟨w.heap.size, 1, none⟩) (by first | omega | (simp; done) | (simp; omega))).trans (by simp [go_sem, *])
  have hc9_2 : w9.cell? ⟨w.heap.size + 1, 0, none⟩ = some (.int .i64 c) := (hb9.cell (p := ⟨w.heap.size + 1, 0, none⟩) (by first | omega | (simp; done) | (simp; omega))).trans (by simp [go_sem, *])
  have hc9_3 : w9.cell? ⟨w.heap.size + 1, 1, none⟩ = some (.int .i64 d) := (hb9.cell (p := ⟨w.heap.size + 1, 1, none⟩) (by first | omega | (simp; done) | (simp; omega))).trans (by simp [go_sem, *])
  have hc9_4 : w9.cell? ⟨w2.heap.size, 0, none⟩ = some (.int .i64 x1) := (hb9.cell (p := ⟨w2.heap.size, 0, none⟩) (by first | omega | (simp; done) | (simp; omega))).trans (by simp [go_sem, *])
  have hc9_5 : w9.cell? ⟨w2.heap.size, 1, none⟩ = some (.int .i64 x2) := (hb9.cell (p := ⟨w2.heap.size, 1, none⟩) (by first | omega | (simp; done) | (simp; omega))).trans (by simp [go_sem, *])
  have hc9_6 : w9.cell? ⟨w3.heap.size, 0, none⟩ = some (.int .i64 a1) := (hb9.cell (p := ⟨w3.heap.size, 0, none⟩) (by first | omega | (simp; done) | (simp; omega))).trans (by simp [go_sem, *])
  have hc9_7 : w9.cell? ⟨w3.heap.size, 1, none⟩ = some (.int .i64 a2) := (hb9.cell (p := ⟨w3.heap.size, 1, none⟩) (by first | omega | (simp; done) | (simp; omega))).trans (by simp [go_sem, *])
  have hc9_8 : w9.cell? ⟨w4.heap.size, 0, none⟩ = some (.int .i64 b1) := (hb9.cell (p := ⟨w4.heap.size, 0, none⟩) (by first | omega | (simp; done) | (simp; omega))).trans (by simp [go_sem, *])
  have hc9_9 : w9.cell? ⟨w4.heap.size, 1, none⟩ = some (.int .i64 b2) := (hb9.cell (p := ⟨w4.heap.size, 1, none⟩) (by first | omega | (simp; done) | (simp; omega))).trans (by simp [go_sem, *])
  have hc9_10 : w9.cell? ⟨w7.heap.size, 0, none⟩ = some (.int .i64 o1) := (hb9.cell (p := ⟨w7.heap.size, 0, none⟩) (by first | omega | (simp; done) | (simp; omega))).trans (by simp [go_sem, *])
  have hc9_11 : w9.cell? ⟨w7.heap.size, 1, none⟩ = some (.int .i64 o2) := (hb9.cell (p := ⟨w7.heap.size, 1, none⟩) (by first | omega | (simp; done) | (simp; omega))).trans (by simp [go_sem, *])
  have hc9_12 : w9.cell? ⟨w8.heap.size, 0, none⟩ = some (.int .i64 y1) := (hb9.cell (p := ⟨w8.heap.size, 0, none⟩) (by first | omega | (simp; done) | (simp; omega))).trans (by simp [go_sem, *])
  have hc9_13 : w9.cell? ⟨w8.heap.size, 1, none⟩ = some (.int .i64 y2) := (hb9.cell (p := ⟨w8.heap.size, 1, none⟩) (by first | omega | (simp; done) | (simp; omega))).trans (by simp [go_sem, *])
  clear hc8_0 hc8_1 hc8_2 hc8_3 hc8_4 hc8_5 hc8_6 hc8_7 hc8_8 hc8_9 hc8_10 hc8_11
  clear hb9
  go_wp2_with fail
  refine (C7.out _).mono ?_
  rintro e w10 ⟨rfl, hb10⟩
  have hB10 : Below w.heap.size w w10 := Below.after (by first | (go_grown; done) | (refine below_drewN ?_ _; go_grown; done)) hb10
  have hs10 : w.heap.size ≤ w10.heap.size := hB10.size
  have hz10_0 : w.heap.size < w10.heap.size := by have := hb10.size; (try simp at this); omega
  have hz10_1 : w.heap.size + 1 < w10.heap.size := by have := hb10.size; (try simp at this); omega
  have hz10_2 : w2.heap.size < w10.heap.size := by have := hb10.size; (try simp at this); omega
  have hz10_3 : w3.heap.size < w10.heap.size := by have := hb10.size; (try simp at this); omega
  have hz10_4 : w4.heap.size < w10.heap.size := by have := hb10.size; (try simp at this); omega
  have hz10_5 : w7.heap.size < w10.heap.size := by have := hb10.size; (try simp at this); omega
  have hz10_6 : w8.heap.size < w10.heap.size := by have := hb10.size; (try simp at this); omega
  have hz10_7 : w9.heap.size < w10.heap.size := by have := hb10.size; (try simp at this); omega
  have hc10_0 : w10.cell? ⟨w.heap.size, 0, none⟩ = some (.int .i64 a) := (hb10.cell (p := ⟨w.heap.size, 0, none⟩) (by first | omega | (simp; done) | (simp; omega))).trans (by simp [go_sem, *])
  have hc10_1 : w10.cell? ⟨w.heap.size, 1, none⟩ = some (.int .i64 b) := (hb10.cell (p := ⟨w.heap.size, 1, none⟩) (by first | omega | (simp; done) | (simp; omega))).trans (by simp [go_sem, *])
  have hc10_2 : w10.cell? ⟨w.heap.size + 1, 0, none⟩ = some (.int .i64 c) := (hb10.cell (p := ⟨w.heap.size + 1, 0, none⟩) (by first | omega | (simp; done) | (simp; omega))).trans (by simp [go_sem, *])
  have hc10_3 : w10.cell? ⟨w.heap.size + 1, 1, none⟩ = some (.int .i64 d) := (hb10.cell (p := ⟨w.heap.size + 1, 1, none⟩) (by first | omega | (simp; done) | (simp; omega))).trans (by simp [go_sem, *])
  have hc10_4 : w10.cell? ⟨w2.heap.size, 0, none⟩ = some (.int .i64 x1) := (hb10.cell (p := ⟨w2.heap.size, 0, none⟩) (by first | omega | (simp; done) | (simp; omega))).trans (by simp [go_sem, *])
  have hc10_5 : w10.cell? ⟨w2.heap.size, 1, none⟩ = some (.int .i64 x2) := (hb10.cell (p := ⟨w2.heap.size, 1, none⟩) (by first | omega | (simp; done) | (simp; omega))).trans (by simp [go_sem, *])
  have hc10_6 : w10.cell? ⟨w3.heap.size, 0, none⟩ = some (.int .i64 a1) := (hb10.cell (p := ⟨w3.heap.size, 0, none⟩) (by first | omega | (simp; done) | (simp; omega))).trans (by simp [go_sem, *])
  have hc10_7 : w10.cell? ⟨w3.heap.size, 1, none⟩ = some (.int .i64 a2) := (hb10.cell (p := ⟨w3.heap.size, 1, none⟩) (by first | omega | (simp; done) | (simp; omega))).trans (by simp [go_sem, *])
  have hc10_8 : w10.cell? ⟨w4.heap.size, 0, none⟩ = some (.int .i64 b1) := (hb10.cell (p := ⟨w4.heap.size, 0, none⟩) (by first | omega | (simp; done) | (simp; omega))).trans (by simp [go_sem, *])
  have hc10_9 : w10.cell? ⟨w4.heap.size, 1, none⟩ = some (.int .i64 b2) := (hb10.cell (p := ⟨w4.heap.size, 1, none⟩) (by first | omega | (simp; done) | (simp; omega))).trans (by simp [go_sem, *])
  have hc10_10 : w10.cell? ⟨w7.heap.size, 0, none⟩ = some (.int .i64 o1) := (hb10.cell (p := ⟨w7.heap.size, 0, none⟩) (by first | omega | (simp; done) | (simp; omega))).trans (by simp [go_sem, *])
  have hc10_11 : w10.cell? ⟨w7.heap.size, 1, none⟩ = some (.int .i64 o2) := (hb10.cell (p := ⟨w7.heap.size, 1, none⟩) (by first | omega | (simp; done) | (simp; omega))).trans (by simp [go_sem, *])
  have hc10_12 : w10.cell? ⟨w8.heap.size, 0, none⟩ = some (.int .i64 y1) := (hb10.cell (p := ⟨w8.heap.size, 0, none⟩) (by first | omega | (simp; done) | (simp; omega))).trans (by simp [go_sem, *])
  have hc10_13 : w10.cell? ⟨w8.heap.size, 1, none⟩ = some (.int .i64 y2) := (hb10.cell (p := ⟨w8.heap.size, 1, none⟩) (by first | omega | (simp; done) | (simp; omega))).trans (by simp [go_sem, *])
  have hc10_14 : w10.cell? ⟨w9.heap.size, 0, none⟩ = some (.int .i64 z1) := (hb10.cell (p := ⟨w9.heap.size, 0, none⟩) (by first | omega | (simp; done) | (simp; omega))).trans (by simp [go_sem, *])
  have hc10_15 : w10.cell? ⟨w9.heap.size, 1, none⟩ = some (.int .i64 z2) := (hb10.cell (p := ⟨w9.heap.size, 1, none⟩) (by first | omega | (simp; done) | (simp; omega))).trans (by simp [go_sem, *])
  clear hc9_0 hc9_1 hc9_2 hc9_3 hc9_4 hc9_5 hc9_6 hc9_7 hc9_8 hc9_9 hc9_10 hc9_11 hc9_12 hc9_13
  clear hb10
  go_wp2_with fail
  go_ret
  refine ⟨rfl, ?_⟩
  go_grown

end Go.Proofs.Ytkjmnmcekhnkmaa
